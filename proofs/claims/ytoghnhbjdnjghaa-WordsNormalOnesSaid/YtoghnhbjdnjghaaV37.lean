/- The law's own word and tame. -/
import Derived.Test.YtoghnhbjdnjghaaV24a
namespace Go.Words
open Go.W
/-- A string of the first letters. -/
def wordM (s : Str) (most many : Nat) : Str := (s.take most).map fun c => UInt8.ofNat (97 + c.toNat % many)
def tameM (l : List Rl) (many most k : Nat) : List Rl := (l.take many).map fun r => (wordM r.1 most k, wordM r.2 most k)
theorem wordM_len (s : Str) (most many : Nat) : (wordM s most many).length ≤ most := by
  unfold wordM
  rw [List.length_map, List.length_take]; omega
theorem tameM_len (l : List Rl) (many most k : Nat) : (tameM l many most k).length ≤ many := by
  unfold tameM
  rw [List.length_map, List.length_take]; omega
theorem tameM_sm (l : List Rl) (many most k : Nat) : Sm most (tameM l many most k) := by
  intro r hr
  unfold tameM at hr
  obtain ⟨x, _, rfl⟩ := List.mem_map.1 hr
  exact ⟨wordM_len _ _ _, wordM_len _ _ _⟩
/-- A byte as a value. -/
def b8 (c : UInt8) : Value := .int .u8 (c.toNat : Nat)
theorem b8_cells (P : Str) : Cells (P.map b8) := by
  intro v hv
  obtain ⟨x, _, rfl⟩ := List.mem_map.1 hv
  rfl
theorem letter_val {c many : Nat} (hc : c < 256) (h1 : 1 ≤ many) (h2 : many ≤ 8) : IntKind.u8.wrap (97 + IntKind.u8.wrap ((IntKind.i64.wrap ((c : Nat) : Int)).tmod (many : Nat))) = ((UInt8.ofNat (97 + c % many)).toNat : Nat) := by
  have h3 : c % many < many := Nat.mod_lt _ h1
  have hw : IntKind.i64.wrap ((c : Nat) : Int) = ((c : Nat) : Int) := by rw [IntKind.wrap_i64]; omega
  rw [hw]
  rw [show ((c : Nat) : Int).tmod (many : Nat) = ((c % many : Nat) : Int) from rfl]
  generalize c % many = r at *
  have : r = 0 ∨ r = 1 ∨ r = 2 ∨ r = 3 ∨ r = 4 ∨ r = 5 ∨ r = 6 ∨ r = 7 := by omega
  rcases this with rfl | rfl | rfl | rfl | rfl | rfl | rfl | rfl <;> rfl
end Go.Words
namespace Go.W
open Go.RowKit Go.Words
section
variable {P : Program} [T : TT P] {ro : Option Nat} {n : Nat} {l0 rest : List Oper} {N : Nor} {Z : Pan} {e : Env} {w : World} {ty : TypeId} {pos : String} {aft : Array Edge} {g : Option (Nat × Bool)}
/-- A list of bytes as a string. -/
theorem WL.convL {d : Nat} {t t2 E : TypeId} {i : TI} {z z2 : Value} {s0 b0 s2 b2 c m : Nat} {x : Operand} {a : Option Addr} {l : Str} (hg : grd l0 e g = some true) (hd : Nat.blt d n = true) (ht : T.ti t = some ⟨.slice E, z, s0, b0⟩) (hE : T.ti E = some i) (hu8 : i.k = .int .u8) (ht2 : T.ti t2 = some ⟨.string, z2, s2, b2⟩)
    (hx : opv e x = some (.slice a m c)) (hm : m = l.length) (hc : Sl w a (l.map b8))
    (h : WL P ro n l0 N Z rest ((d, st l) :: e) w) : WL P ro n l0 N Z (⟨some d, .convert t t2 x, ty, pos, aft, g⟩ :: rest) e w := by
  subst hm
  have hs : P.underlying t = some (.slice E) := (T.ok t _ ht).k
  have he0 := (T.ok E i hE).k
  rw [hu8] at he0
  have he : P.underlying E = some (.int .u8) := he0
  have hd2 : P.underlying t2 = some .string := (T.ok t2 _ ht2).k
  have hr : (convert t t2 (.slice a l.length c)).run P w = .ok (.string ⟨l.toArray⟩) w := by
    cases l with
    | nil =>
      cases a with
      | none =>
        show (convert t t2 (.slice none 0 c)).run P w = _
        rw [run_convert_bytes_string w t t2 E none 0 c hs he hd2]
        simp [Conv.bytesToString]
        rfl
      | some a => exact run_convert_bytes_back (P := P) w t t2 E a c [] hs he hd2 (fun j hj => by cases hj)
    | cons u l =>
      obtain ⟨b, o, rfl, _⟩ := hc 0 _ rfl
      refine run_convert_bytes_back (P := P) w t t2 E ⟨b, o, none⟩ c (u :: l) hs he hd2 (fun j hj => ?_)
      obtain ⟨b', o', he', hcell⟩ := hc j (b8 (u :: l)[j]) (by rw [List.getElem?_map, List.getElem?_eq_getElem hj]; rfl)
      simp only [Option.some.injEq, Addr.mk.injEq] at he'
      obtain ⟨rfl, rfl, _⟩ := he'
      rw [Addr.add_lit]
      exact hcell
  refine WL.val hg rfl hd ?_ h
  intro ρ hρ d' pos' aft' g'
  simp only [execOp, hρ _ _ hx]
  simp [hr, st, sb]
end
end Go.W
namespace Go.Proofs.Ytoghnhbjdnjghaa
open Go.W Go.Words Go.RowKit
set_option maxRecDepth 100000
attribute [local irreducible] WC WL WQ WS WH

theorem word_any (s : Str) (most many : Nat) (hs : s.length ≤ 9223372036854775807) (hm : most ≤ 1000) (h1 : 1 ≤ many) (h2 : many ≤ 8) (w : World) :
    Ret Try.prog 11 [st s, .int .i64 (most : Nat), .int .i64 (many : Nat)] w fun u w' => u = st (wordM s most many) ∧ Hp w w' [] := by
  refine enter Try.func11 rfl rfl ⟨rfl, rfl⟩ rfl ?_
  repeat (first | refine WC.seq ?_ | refine WC.reg ?_ | refine WL.pure rfl rfl rfl ?_ | refine WL.nil ?_ | refine WC.skip ?_ | refine WC.block ?_ | refine WC.condT rfl ?_ | refine WC.condF rfl ?_ | refine WL.off rfl rfl rfl ?_ | refine WL.off0 rfl rfl ?_ | refine WC.exit ?_ | refine blk_hit ?_ | refine blk_miss rfl ?_ | refine WC.ret ?_)
  refine WC.loop (Nat × Option Addr × Nat × Str) (fun (i, va, vc, acc) => [(0, st s), (1, .int .i64 (most : Nat)), (2, .int .i64 (many : Nat)), (7, .slice va acc.length vc), (8, .int .i64 (i : Nat))])
    (fun (i, va, vc, acc) w' => i ≤ most ∧ i ≤ s.length ∧ acc = wordM (s.take i) i many ∧ acc.length = i ∧ Hp w w' [.row 5 1 (.slice va acc.length vc) acc.length (acc.map b8)]) (fun (i, _) => most - i) (0, none, 0, []) ⟨rfl, rfl, rfl, rfl, rfl, rfl⟩ ⟨Nat.zero_le _, Nat.zero_le _, rfl, rfl, (Hp.start w).nilrow _ _⟩ ?_
  rintro ⟨i, va, vc, acc⟩ w1 ⟨hi, his, hA, hal, hp1⟩
  have hend : (most ≤ i ∨ s.length ≤ i) → acc = wordM s most many := fun h => by
    rw [hA]
    unfold wordM
    rw [List.take_take, Nat.min_self]
    congr 1
    rcases h with h | h
    · rw [show i = most by omega]
    · rw [List.take_of_length_le h, List.take_of_length_le (by omega)]
  have fin : ∀ w2, acc = wordM s most many → Hp w w2 [.row 5 1 (.slice va acc.length vc) acc.length (acc.map b8)] → Sl w2 va (acc.map b8) := fun w2 _ h => Sl.of_row (h.at 0 rfl)
  repeat (first | refine WC.seq ?_ | refine WC.reg ?_ | refine WL.pure rfl rfl rfl ?_ | refine WL.nil ?_ | refine WC.skip ?_ | refine WC.block ?_ | refine WC.condT rfl ?_ | refine WC.condF rfl ?_ | refine WL.off rfl rfl rfl ?_ | refine WL.off0 rfl rfl ?_ | refine WC.exit ?_ | refine blk_hit ?_ | refine blk_miss rfl ?_ | refine WC.ret ?_)
  refine WL.split 13 rfl (fun c1 => ?_) (fun c1 => ?_)
  · have c1 : i < s.length := by have := of_decide_eq_true c1; rw [sb_size] at this; omega
    repeat (first | refine WC.seq ?_ | refine WC.reg ?_ | refine WL.pure rfl rfl rfl ?_ | refine WL.nil ?_ | refine WC.skip ?_ | refine WC.block ?_ | refine WC.condT rfl ?_ | refine WC.condF rfl ?_ | refine WL.off rfl rfl rfl ?_ | refine WL.off0 rfl rfl ?_ | refine WC.exit ?_ | refine blk_hit ?_ | refine blk_miss rfl ?_ | refine WC.ret ?_)
    refine WC.cond rfl (fun c2 => ?_) (fun c2 => ?_)
    · have c2 : i < most := by have := of_decide_eq_true c2; omega
      have step := wrap_succ c2 (by omega)
      have e0 := letter_val (c := s[i].toNat) (s[i].toNat_lt) h1 h2
      have hnext : acc ++ [UInt8.ofNat (97 + s[i].toNat % many)] = wordM (s.take (i + 1)) (i + 1) many := by
        rw [hA]
        unfold wordM
        rw [List.take_take, List.take_take, Nat.min_self, Nat.min_self, List.take_succ_eq_append_getElem c1, List.map_append]
        rfl
      generalize UInt8.ofNat (97 + s[i].toNat % many) = u at *
      have e1 : (acc ++ [u]).length = acc.length + 1 := by rw [List.length_append]; rfl
      repeat (first | refine WC.seq ?_ | refine WC.reg ?_ | refine WL.pure rfl rfl rfl ?_ | refine WL.nil ?_ | refine WC.skip ?_ | refine WC.block ?_ | refine WC.condT rfl ?_ | refine WC.condF rfl ?_ | refine WL.off rfl rfl rfl ?_ | refine WL.off0 rfl rfl ?_ | refine WC.exit ?_ | refine blk_hit ?_ | refine blk_miss rfl ?_ | refine WC.ret ?_)
      refine WL.sAt rfl rfl rfl rfl rfl c1 ?_
      repeat (first | refine WC.seq ?_ | refine WC.reg ?_ | refine WL.pure rfl rfl rfl ?_ | refine WL.nil ?_ | refine WC.skip ?_ | refine WC.block ?_ | refine WC.condT rfl ?_ | refine WC.condF rfl ?_ | refine WL.off rfl rfl rfl ?_ | refine WL.off0 rfl rfl ?_ | refine WC.exit ?_ | refine blk_hit ?_ | refine blk_miss rfl ?_ | refine WC.ret ?_)
      refine WL.rem rfl rfl rfl rfl (by omega) ?_
      repeat (first | refine WC.seq ?_ | refine WC.reg ?_ | refine WL.pure rfl rfl rfl ?_ | refine WL.nil ?_ | refine WC.skip ?_ | refine WC.block ?_ | refine WC.condT rfl ?_ | refine WC.condF rfl ?_ | refine WL.off rfl rfl rfl ?_ | refine WL.off0 rfl rfl ?_ | refine WC.exit ?_ | refine blk_hit ?_ | refine blk_miss rfl ?_ | refine WC.ret ?_)
      refine WL.known (d := 28) (v := b8 u) (congrArg (fun z => some (Value.int .u8 z)) e0) ?_
      refine WL.buildS (cs := [b8 u]) rfl rfl rfl rfl rfl rfl rfl rfl rfl ?_
      intro b6 w2 hb6
      have hp2 := hp1.new hb6
      refine WL.append 1 hp2 rfl rfl rfl rfl rfl (by decide) rfl rfl rfl (news := [b8 u]) (Sl.of_obj (hp2.obj 0 rfl) (fun q v hq => by simpa using hq)) rfl (b8_cells [u]) (by unfold maxLen; omega) (by show (acc.length + 1) * 1 ≤ _; omega) ?_
      intro ra rc1 w3 hp3 hg3
      repeat (first | refine WC.seq ?_ | refine WC.reg ?_ | refine WL.pure rfl rfl rfl ?_ | refine WL.nil ?_ | refine WC.skip ?_ | refine WC.block ?_ | refine WC.condT rfl ?_ | refine WC.condF rfl ?_ | refine WL.off rfl rfl rfl ?_ | refine WL.off0 rfl rfl ?_ | refine WC.exit ?_ | refine blk_hit ?_ | refine blk_miss rfl ?_ | refine WC.ret ?_)
      refine ⟨(i + 1, ra, rc1, acc ++ [u]), (by show most - (i + 1) < most - i; omega), ⟨rfl, rfl, rfl, congrArg (fun z : Nat => some (Value.slice ra z rc1)) e1.symm, congrArg (fun z => some (Value.int .i64 z)) step, rfl⟩, by omega, by omega, hnext, by omega, ?_⟩
      show Hp w w3 [.row _ _ _ _ _]
      rw [e1, List.map_append]
      exact hp3.tail
    · have c2 : most ≤ i := by have := of_decide_eq_false c2; omega
      have hf := hend (.inl c2)
      repeat (first | refine WC.seq ?_ | refine WC.reg ?_ | refine WL.pure rfl rfl rfl ?_ | refine WL.nil ?_ | refine WC.skip ?_ | refine WC.block ?_ | refine WC.condT rfl ?_ | refine WC.condF rfl ?_ | refine WL.off rfl rfl rfl ?_ | refine WL.off0 rfl rfl ?_ | refine WC.exit ?_ | refine blk_hit ?_ | refine blk_miss rfl ?_ | refine WC.ret ?_)
      refine WL.convL (l := acc) rfl rfl rfl rfl rfl rfl rfl rfl (fin _ hf hp1) ?_
      repeat (first | refine WC.seq ?_ | refine WC.reg ?_ | refine WL.pure rfl rfl rfl ?_ | refine WL.nil ?_ | refine WC.skip ?_ | refine WC.block ?_ | refine WC.condT rfl ?_ | refine WC.condF rfl ?_ | refine WL.off rfl rfl rfl ?_ | refine WL.off0 rfl rfl ?_ | refine WC.exit ?_ | refine blk_hit ?_ | refine blk_miss rfl ?_ | refine WC.ret ?_)
      exact Res.one rfl rfl rfl ⟨by rw [hf], hp1.nil'⟩
  · have c1 : s.length ≤ i := by have := of_decide_eq_false c1; rw [sb_size] at this; omega
    have hf := hend (.inr c1)
    repeat (first | refine WC.seq ?_ | refine WC.reg ?_ | refine WL.pure rfl rfl rfl ?_ | refine WL.nil ?_ | refine WC.skip ?_ | refine WC.block ?_ | refine WC.condT rfl ?_ | refine WC.condF rfl ?_ | refine WL.off rfl rfl rfl ?_ | refine WL.off0 rfl rfl ?_ | refine WC.exit ?_ | refine blk_hit ?_ | refine blk_miss rfl ?_ | refine WC.ret ?_)
    refine WL.convL (l := acc) rfl rfl rfl rfl rfl rfl rfl rfl (fin _ hf hp1) ?_
    repeat (first | refine WC.seq ?_ | refine WC.reg ?_ | refine WL.pure rfl rfl rfl ?_ | refine WL.nil ?_ | refine WC.skip ?_ | refine WC.block ?_ | refine WC.condT rfl ?_ | refine WC.condF rfl ?_ | refine WL.off rfl rfl rfl ?_ | refine WL.off0 rfl rfl ?_ | refine WC.exit ?_ | refine blk_hit ?_ | refine blk_miss rfl ?_ | refine WC.ret ?_)
    exact Res.one rfl rfl rfl ⟨by rw [hf], hp1.nil'⟩

set_option maxHeartbeats 1000000 in
theorem tame_any (a : Option Addr) (cap : Nat) (l : List Rl) (many most k : Nat) (hmany : many ≤ 1000) (hmost : most ≤ 1000) (hk1 : 1 ≤ k) (hk : k ≤ 8) (hlen : l.length ≤ 9223372036854775807) (hsm : Sm 9223372036854775807 l) (w : World) (hs : Sl w a (rcs l)) :
    Ret Try.prog 9 [.slice a l.length cap, .int .i64 (many : Nat), .int .i64 (most : Nat), .int .i64 (k : Nat)] w fun u w' => ∃ pa pc, u = .slice pa (tameM l many most k).length pc ∧ Hp w w' [Rt u (tameM l many most k)] := by
  refine enter Try.func9 rfl rfl ⟨rfl, rfl⟩ rfl ?_
  repeat (first | refine WC.seq ?_ | refine WC.reg ?_ | refine WL.pure rfl rfl rfl ?_ | refine WL.nil ?_ | refine WC.skip ?_ | refine WC.block ?_ | refine WC.condT rfl ?_ | refine WC.condF rfl ?_ | refine WL.off rfl rfl rfl ?_ | refine WL.off0 rfl rfl ?_ | refine WC.exit ?_ | refine blk_hit ?_ | refine blk_miss rfl ?_ | refine WC.ret ?_)
  refine WC.loop (Nat × Option Addr × Nat × List Rl) (fun (i, va, vc, acc) => [(0, .slice a l.length cap), (1, .int .i64 (many : Nat)), (2, .int .i64 (most : Nat)), (3, .int .i64 (k : Nat)), (9, .slice va acc.length vc), (10, .int .i64 (i : Nat))])
    (fun (i, va, vc, acc) w' => i ≤ many ∧ i ≤ l.length ∧ acc = tameM l i most k ∧ Hp w w' [Rt (.slice va acc.length vc) acc]) (fun (i, _) => many - i) (0, none, 0, []) ⟨rfl, rfl, rfl, rfl, rfl, rfl, rfl⟩ ⟨Nat.zero_le _, Nat.zero_le _, rfl, (Hp.start w).nilrow _ _⟩ ?_
  rintro ⟨i, va, vc, acc⟩ w2 ⟨hi, hil, hA, hp2⟩
  have hend : (many ≤ i ∨ l.length ≤ i) → acc = tameM l many most k := fun h => by
    rw [hA]
    unfold tameM
    rcases h with h | h
    · rw [show i = many by omega]
    · rw [List.take_of_length_le h, List.take_of_length_le (by omega)]
  repeat (first | refine WC.seq ?_ | refine WC.reg ?_ | refine WL.pure rfl rfl rfl ?_ | refine WL.nil ?_ | refine WC.skip ?_ | refine WC.block ?_ | refine WC.condT rfl ?_ | refine WC.condF rfl ?_ | refine WL.off rfl rfl rfl ?_ | refine WL.off0 rfl rfl ?_ | refine WC.exit ?_ | refine blk_hit ?_ | refine blk_miss rfl ?_ | refine WC.ret ?_)
  refine WL.split 15 rfl (fun c1 => ?_) (fun c1 => ?_)
  · have c1 : i < l.length := by have := of_decide_eq_true c1; omega
    repeat (first | refine WC.seq ?_ | refine WC.reg ?_ | refine WL.pure rfl rfl rfl ?_ | refine WL.nil ?_ | refine WC.skip ?_ | refine WC.block ?_ | refine WC.condT rfl ?_ | refine WC.condF rfl ?_ | refine WL.off rfl rfl rfl ?_ | refine WL.off0 rfl rfl ?_ | refine WC.exit ?_ | refine blk_hit ?_ | refine blk_miss rfl ?_ | refine WC.ret ?_)
    refine WC.cond rfl (fun c2 => ?_) (fun c2 => ?_)
    · have c2 : i < many := by have := of_decide_eq_true c2; omega
      have step := wrap_succ c2 (by omega)
      have hsz := hsm.at_ c1
      have hal : acc.length = i := by rw [hA]; unfold tameM; rw [List.length_map, List.length_take]; omega
      have hsucc : tameM l (i + 1) most k = acc ++ [(wordM l[i].1 most k, wordM l[i].2 most k)] := by
        rw [hA]
        unfold tameM
        rw [List.take_succ_eq_append_getElem c1, List.map_append]; rfl
      have hw1 : ∀ w', Ret Try.prog 11 [st l[i].1, .int .i64 (most : Nat), .int .i64 (k : Nat)] w' fun u w'' => u = st (wordM l[i].1 most k) ∧ Hp w' w'' [] := word_any l[i].1 most k hsz.1 hmost hk1 hk
      have hw2 : ∀ w', Ret Try.prog 11 [st l[i].2, .int .i64 (most : Nat), .int .i64 (k : Nat)] w' fun u w'' => u = st (wordM l[i].2 most k) ∧ Hp w' w'' [] := word_any l[i].2 most k hsz.2 hmost hk1 hk
      obtain ⟨b, o, rfl⟩ := rcs_some hs (by omega)
      have hT : ∀ w', Hp w w' [Rt (.slice va acc.length vc) acc] → Hp w w' [] := fun w' h => h.nil'
      repeat (first | refine WC.seq ?_ | refine WC.reg ?_ | refine WL.pure rfl rfl rfl ?_ | refine WL.nil ?_ | refine WC.skip ?_ | refine WC.block ?_ | refine WC.condT rfl ?_ | refine WC.condF rfl ?_ | refine WL.off rfl rfl rfl ?_ | refine WL.off0 rfl rfl ?_ | refine WC.exit ?_ | refine blk_hit ?_ | refine blk_miss rfl ?_ | refine WC.ret ?_)
      refine WC.mid (Option Addr × Nat) (fun (ra, rc1) => [(0, .slice (some ⟨b, o, none⟩) l.length cap), (1, .int .i64 (many : Nat)), (2, .int .i64 (most : Nat)), (3, .int .i64 (k : Nat)), (9, .slice ra (tameM l (i + 1) most k).length rc1), (10, .int .i64 (i : Nat))]) (fun (ra, rc1) w' => Hp w w' [Rt (.slice ra (tameM l (i + 1) most k).length rc1) (tameM l (i + 1) most k)]) ?_ ?_
      · rw [hsucc]
        refine WC.regH (fun w' => Hp w w' []) mixed (by kernel_rfl) (fun w3 hw3 hh3 => ?_)
        have hp3 := hp2.keep hw3
        refine WH.pure 0 (by kernel_rfl) rfl (by kernel_rfl) rfl rfl rfl (hT _ hp3) ?_
        refine WH.pure 1 (by kernel_rfl) rfl (by kernel_rfl) rfl rfl rfl (hT _ hp3) ?_
        refine WH.pure 2 (by kernel_rfl) rfl (by kernel_rfl) rfl rfl rfl (hT _ hp3) ?_
        refine WH.ixS 3 (by kernel_rfl) rfl (by kernel_rfl) rfl rfl rfl rfl rfl rfl c1 (hT _ hp3) ?_
        refine WH.pure 4 (by kernel_rfl) rfl (by kernel_rfl) rfl rfl rfl (hT _ hp3) ?_
        refine WH.load 5 (by kernel_rfl) rfl (by kernel_rfl) rfl rfl rfl rfl rfl (fun w' h => rcs_cell (hs.hp h) c1 (q := 0) rfl) (hT _ hp3) ?_
        refine WH.pure 6 (by kernel_rfl) rfl (by kernel_rfl) rfl rfl rfl (hT _ hp3) ?_
        refine WH.pure 7 (by kernel_rfl) rfl (by kernel_rfl) rfl rfl rfl (hT _ hp3) ?_
        refine WH.pure 9 (by kernel_rfl) rfl (by kernel_rfl) rfl rfl rfl (hT _ hp3) ?_
        refine WH.pure 10 (by kernel_rfl) rfl (by kernel_rfl) rfl rfl rfl (hT _ hp3) ?_
        refine WH.ixS 11 (by kernel_rfl) rfl (by kernel_rfl) rfl rfl rfl rfl rfl rfl c1 (hT _ hp3) ?_
        refine WH.pure 12 (by kernel_rfl) rfl (by kernel_rfl) rfl rfl rfl (hT _ hp3) ?_
        refine WH.load 13 (by kernel_rfl) rfl (by kernel_rfl) rfl rfl rfl rfl rfl (fun w' h => rcs_cell (hs.hp h) c1 (q := 1) rfl) (hT _ hp3) ?_
        refine WH.pure 14 (by kernel_rfl) rfl (by kernel_rfl) rfl rfl rfl (hT _ hp3) ?_
        refine WH.pure 15 (by kernel_rfl) rfl (by kernel_rfl) rfl rfl rfl (hT _ hp3) ?_
        refine WH.one 8 rfl (by kernel_rfl) ?_
        refine WL.call rfl rfl rfl rfl rfl ent11 (hw1 w3) ?_
        rintro _ w4 ⟨rfl, hp4⟩
        have hp4 := hp3.comb hp4
        refine WL.nil ⟨hT _ hp4, ?_⟩
        refine WH.one 16 rfl (by kernel_rfl) ?_
        refine WL.call rfl rfl rfl rfl rfl ent11 (hw2 w4) ?_
        rintro _ w5 ⟨rfl, hp5⟩
        have hp5 := hp4.comb hp5
        refine WL.nil ⟨hT _ hp5, ?_⟩
        generalize wordM l[i].1 most k = x1 at *
        generalize wordM l[i].2 most k = x2 at *
        refine WH.one 17 rfl (by kernel_rfl) ?_
        refine WL.buildT (cs := [st x1, st x2]) rfl rfl rfl rfl rfl rfl (WL.nil ⟨hT _ hp5, ?_⟩)
        refine WH.one 18 rfl (by kernel_rfl) ?_
        refine WL.buildS (cs := rc (x1, x2)) rfl rfl rfl rfl rfl rfl rfl rfl rfl ?_
        intro b6 w6 hb6
        have hp6 : Hp w w6 [Bx b6 (x1, x2), Rt (.slice va acc.length vc) acc] := hp5.new hb6
        refine WL.nil ⟨hp6.nil', ?_⟩
        refine WH.one 19 rfl (by kernel_rfl) ?_
        refine WL.append 1 hp6 rfl rfl rfl rfl rfl (by decide) rfl rfl rfl (news := rc (x1, x2)) (Sl.of_obj (hp6.obj 0 rfl) (fun q u hq => by simpa [rc] using hq)) rfl (rcs_cells [(x1, x2)]) (by unfold maxLen; omega) (by show (acc.length + 1) * 32 ≤ _; omega) ?_
        intro ra rc1 w7 hp7 hg7
        have e1 : (acc ++ [(x1, x2)]).length = acc.length + 1 := by rw [List.length_append]; rfl
        refine WL.nil ⟨hp7.nil', ?_⟩
        refine WH.pure 20 (by kernel_rfl) rfl (by kernel_rfl) rfl rfl rfl (hp7.nil') ?_
        refine WH.done (by kernel_rfl) ?_
        refine ⟨(ra, rc1), ⟨rfl, rfl, rfl, rfl, congrArg (fun z : Nat => some (Value.slice ra z rc1)) e1.symm, rfl, rfl⟩, ?_⟩
        show Hp w w7 [Rt _ _]
        unfold Rt
        rw [e1, rcs_app]
        exact hp7.tail
      rintro ⟨ra, rc1⟩ e4 w4 hsub4 hp4
      refine WC.sub hsub4 ?_
      repeat (first | refine WC.seq ?_ | refine WC.reg ?_ | refine WL.pure rfl rfl rfl ?_ | refine WL.nil ?_ | refine WC.skip ?_ | refine WC.block ?_ | refine WC.condT rfl ?_ | refine WC.condF rfl ?_ | refine WL.off rfl rfl rfl ?_ | refine WL.off0 rfl rfl ?_ | refine WC.exit ?_ | refine blk_hit ?_ | refine blk_miss rfl ?_ | refine WC.ret ?_)
      exact ⟨(i + 1, ra, rc1, tameM l (i + 1) most k), (by show many - (i + 1) < many - i; omega), ⟨rfl, rfl, rfl, rfl, rfl, congrArg (fun z => some (Value.int .i64 z)) step, rfl⟩, by omega, by omega, rfl, hp4⟩
    · have c2 : many ≤ i := by have := of_decide_eq_false c2; omega
      have hf := hend (.inl c2)
      repeat (first | refine WC.seq ?_ | refine WC.reg ?_ | refine WL.pure rfl rfl rfl ?_ | refine WL.nil ?_ | refine WC.skip ?_ | refine WC.block ?_ | refine WC.condT rfl ?_ | refine WC.condF rfl ?_ | refine WL.off rfl rfl rfl ?_ | refine WL.off0 rfl rfl ?_ | refine WC.exit ?_ | refine blk_hit ?_ | refine blk_miss rfl ?_ | refine WC.ret ?_)
      exact Res.one rfl rfl rfl ⟨va, vc, by rw [← hf], by rw [← hf]; exact hp2⟩
  · have c1 : l.length ≤ i := by have := of_decide_eq_false c1; omega
    have hf := hend (.inr c1)
    repeat (first | refine WC.seq ?_ | refine WC.reg ?_ | refine WL.pure rfl rfl rfl ?_ | refine WL.nil ?_ | refine WC.skip ?_ | refine WC.block ?_ | refine WC.condT rfl ?_ | refine WC.condF rfl ?_ | refine WL.off rfl rfl rfl ?_ | refine WL.off0 rfl rfl ?_ | refine WC.exit ?_ | refine blk_hit ?_ | refine blk_miss rfl ?_ | refine WC.ret ?_)
    exact Res.one rfl rfl rfl ⟨va, vc, by rw [← hf], by rw [← hf]; exact hp2⟩
end Go.Proofs.Ytoghnhbjdnjghaa
