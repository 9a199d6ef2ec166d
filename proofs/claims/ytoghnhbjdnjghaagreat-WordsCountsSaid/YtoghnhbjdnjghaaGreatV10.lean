/- The walk of the insertion of a rule into a list. -/
import Derived.Test.YtoghnhbjdnjghaaGreatV9
import Derived.Lib.Overlaps
namespace Go.W
open Go.RowKit
/-- What two copies leave: first the rear moves, then the new one comes in. -/
theorem ins_room {a b r x : List Value} {m : Nat} (hm : a.length = m) (hr : r.length = 2) (hx : 2 ≤ x.length) :
    ((((a ++ (b ++ x)).take (m + 2) ++ b ++ (a ++ (b ++ x)).drop (m + 2 + b.length)).take m) ++ r ++ (((a ++ (b ++ x)).take (m + 2) ++ b ++ (a ++ (b ++ x)).drop (m + 2 + b.length)).drop (m + 2))) = a ++ r ++ b ++ x.drop 2 := by
  have h1 : ((a ++ (b ++ x)).take (m + 2)).length = m + 2 := by rw [List.length_take, List.length_append, List.length_append]; omega
  rw [List.append_assoc ((a ++ (b ++ x)).take (m + 2)), List.take_append_of_le_length (by omega), List.take_take, Nat.min_eq_left (by omega), List.drop_left' h1, List.take_left' hm]
  rw [← hm, show a.length + 2 + b.length = a.length + (b.length + 2) by omega, ← List.drop_drop, List.drop_left' rfl, ← List.drop_drop, List.drop_left' rfl]
  simp
/-- .. the other way round, in a new block. -/
theorem ins_new {c a b r : List Value} {m : Nat} (hm : a.length = m) (ha : c.take m = a) (hr : r.length = 2) (hc : m + 2 + b.length ≤ c.length) :
    ((c.take m ++ r ++ c.drop (m + 2)).take (m + 2) ++ b ++ (c.take m ++ r ++ c.drop (m + 2)).drop (m + 2 + b.length)) = a ++ r ++ b ++ c.drop (m + 2 + b.length) := by
  have h1 : (a ++ r).length = m + 2 := by rw [List.length_append, hm, hr]
  rw [ha, List.take_left' h1, ← List.drop_drop, List.drop_left' h1, List.drop_drop]
end Go.W
namespace Go.Proofs.YtoghnhbjdnjghaaGreat
open Go.W Go.Words Go.RowKit
set_option maxRecDepth 100000
attribute [local irreducible] WC WL WQ WS WH

def insL (l : List Rl) (k : Nat) (r : Rl) : List Rl := l.take k ++ r :: l.drop k
theorem insL_len (l : List Rl) (k : Nat) (r : Rl) (hk : k ≤ l.length) : (insL l k r).length = l.length + 1 := by
  unfold insL
  rw [List.length_append, List.length_cons, List.length_take, List.length_drop]
  omega
theorem insL_rcs (l : List Rl) (k : Nat) (r : Rl) : rcs (insL l k r) = rcs (l.take k) ++ rc r ++ rcs (l.drop k) := by
  unfold insL
  rw [rcs_app, List.append_assoc]
  rfl
theorem insL_end (l : List Rl) (r : Rl) : insL l l.length r = l ++ [r] := by
  unfold insL
  rw [List.take_length, List.drop_length]
theorem overlaps_run (w : World) (va : Nat) (b vb ob la ca lb cb : Nat) (arr1 arr2 : Array Value) (t1 t2 : TypeId) (hne : vb ≠ b) (h1 : w.heap[vb]? = some (.cells arr1 t1 (0, 0))) (h2 : w.heap[b]? = some (.cells arr2 t2 (0, 0))) (h0 : arr2.size ≠ 0) :
    (callFunc 115 ([.slice (some ⟨vb, va, none⟩) la ca, .slice (some ⟨b, ob, none⟩) lb cb] : List Value).toArray).run Tryz.prog w = .ok (.value (.bool false)) w := by
  rw [run_callFunc_extern Tryz.func115 (by kernel_rfl) (by kernel_rfl) (by kernel_rfl) (e := Extern.SlicesOverlaps.overlaps #[22, 22] #[4]) (by kernel_rfl)]
  have h := Lib.run_overlaps_apart (P := Tryz.prog) w 22 4 56 (by kernel_rfl) 2 (fun w => (TT.ok (P := Tryz.prog) 56 _ rfl).sizeOf w) ⟨vb, va, none⟩ ⟨b, ob, none⟩ la ca lb cb hne t1 t2 arr1.size arr2.size (by simp [World.shape?, h1]) (by simp [World.shape?, h2]) h0 (by simp [World.frozen?, h1]) (by simp [World.frozen?, h1])
  show ((Extern.SlicesOverlaps.overlaps #[22, 22] #[4] #[.slice (some ⟨vb, va, none⟩) la ca, .slice (some ⟨b, ob, none⟩) lb cb]).run Tryz.prog w).andThen _ = _
  rw [h]
  rfl
theorem Insert_any (l : List Rl) (hl : l.length ≤ 1000000) (v : Value) (k : Nat) (hk : k ≤ l.length) (r : Rl) (vb : Nat) (w0 : World) (L : List Ent) (w : World) (hp : Hp w0 w (Rt v l :: Bx vb r :: L)) :
    Ret Tryz.prog 96 [v, .int .i64 (k : Nat), .slice (some ⟨vb, 0, none⟩) 1 1] w fun u w' => ∃ ra rc, u = .slice ra (insL l k r).length rc ∧ Hp w0 w' (Rt u (insL l k r) :: Bx vb r :: L) := by
  obtain ⟨pa, pc, rfl⟩ := owns_shape (hp.at 0 rfl)
  have hcap : l.length ≤ pc := by
    obtain ⟨_, ⟨hv, h0⟩ | ⟨b, cap, cur, hv, _, _, hnc, _⟩⟩ := hp.at 0 rfl
    · simp only [Value.slice.injEq] at hv; omega
    · simp only [Value.slice.injEq] at hv; omega
  have hin := insL_len l k r hk
  have hsr : Sl w (some ⟨vb, 0, none⟩) (rc r) := Sl.of_obj (hp.obj 1 rfl) (fun q u hq => by simpa [rc] using hq)
  have hsl : Sl w pa (rcs l) := Sl.of_row (hp.at 0 rfl)
  refine enter Tryz.func96 rfl rfl ⟨rfl, rfl⟩ rfl ?_
  repeat (first | refine WC.seq ?_ | refine WC.reg ?_ | refine WL.pure rfl rfl rfl ?_ | refine WL.nil ?_ | refine WC.skip ?_ | refine WC.block ?_ | refine WC.condT rfl ?_ | refine WC.condF rfl ?_ | refine WL.off rfl rfl rfl ?_ | refine WL.off0 rfl rfl ?_ | refine WC.exit ?_ | refine blk_hit ?_ | refine blk_miss rfl ?_ | refine WC.ret ?_)
  refine WL.val rfl rfl rfl (ySlLo (l := k) rfl rfl rfl rfl hk hcap) ?_
  repeat (first | refine WC.seq ?_ | refine WC.reg ?_ | refine WL.pure rfl rfl rfl ?_ | refine WL.nil ?_ | refine WC.skip ?_ | refine WC.block ?_ | refine WC.condT rfl ?_ | refine WC.condF rfl ?_ | refine WL.off rfl rfl rfl ?_ | refine WL.off0 rfl rfl ?_ | refine WC.exit ?_ | refine blk_hit ?_ | refine blk_miss rfl ?_ | refine WC.ret ?_)
  refine WC.cond rfl (fun hc => ?_) (fun hc => ?_)
  · obtain rfl : k = l.length := by have := of_decide_eq_true hc; omega
    repeat (first | refine WC.seq ?_ | refine WC.reg ?_ | refine WL.pure rfl rfl rfl ?_ | refine WL.nil ?_ | refine WC.skip ?_ | refine WC.block ?_ | refine WC.condT rfl ?_ | refine WC.condF rfl ?_ | refine WL.off rfl rfl rfl ?_ | refine WL.off0 rfl rfl ?_ | refine WC.exit ?_ | refine blk_hit ?_ | refine blk_miss rfl ?_ | refine WC.ret ?_)
    refine WL.append 0 hp rfl rfl rfl rfl rfl (by decide) rfl rfl rfl (news := rc r) hsr rfl (rcs_cells [r]) (by unfold maxLen; omega) (by show (l.length + 1) * 32 ≤ _; omega) ?_
    intro ra rc1 w2 hp2 hg2
    repeat (first | refine WC.seq ?_ | refine WC.reg ?_ | refine WL.pure rfl rfl rfl ?_ | refine WL.nil ?_ | refine WC.skip ?_ | refine WC.block ?_ | refine WC.condT rfl ?_ | refine WC.condF rfl ?_ | refine WL.off rfl rfl rfl ?_ | refine WL.off0 rfl rfl ?_ | refine WC.exit ?_ | refine blk_hit ?_ | refine blk_miss rfl ?_ | refine WC.ret ?_)
    refine Res.one (v := .slice ra (l.length + 1) rc1) rfl rfl rfl ⟨ra, rc1, by rw [hin], ?_⟩
    unfold Rt
    rw [hin, insL_end, rcs_app]
    exact hp2
  · have hkn : k < l.length := by have := of_decide_eq_false hc; omega
    have e1 : IntKind.i64.wrap ((l.length : Int) + ((1 : Nat) : Int)) = ((l.length + 1 : Nat) : Int) := by rw [wrap_i64_in (by omega) (by omega)]; omega
    have ek1 : IntKind.i64.wrap ((k : Int) + ((1 : Nat) : Int)) = ((k + 1 : Nat) : Int) := by rw [wrap_i64_in (by omega) (by omega)]; omega
    have e2 : IntKind.i64.wrap (((l.length + 1 : Nat) : Int) - (k : Int)) = ((l.length + 1 - k : Nat) : Int) := by rw [wrap_i64_in (by omega) (by omega)]; omega
    obtain ⟨b, cap, cur, hv, hnc, hcm, hcs, hct, hpb⟩ := hp.unrow (by omega)
    simp only [Value.slice.injEq] at hv
    obtain ⟨rfl, -, rfl⟩ := hv
    have hA : (rcs (l.take k)).length = k * 2 := by rw [rcs_len, List.length_take, Nat.min_eq_left hk]
    have hB : (rcs (l.drop k)).length = (l.length - k) * 2 := by rw [rcs_len, List.length_drop]
    have hAB : rcs l = rcs (l.take k) ++ rcs (l.drop k) := by rw [← rcs_app, List.take_append_drop]
    repeat (first | refine WC.seq ?_ | refine WC.reg ?_ | refine WL.pure rfl rfl rfl ?_ | refine WL.nil ?_ | refine WC.skip ?_ | refine WC.block ?_ | refine WC.condT rfl ?_ | refine WC.condF rfl ?_ | refine WL.off rfl rfl rfl ?_ | refine WL.off0 rfl rfl ?_ | refine WC.exit ?_ | refine blk_hit ?_ | refine blk_miss rfl ?_ | refine WC.ret ?_)
    have hsrc : Sl w (some ⟨b, 0 + k * 2, none⟩) (rcs (l.drop k)) := by
      have := hsl.ofs (len := l.length) (cap := pc) (l := k) (size := 2) hk hcap (by rw [rcs_len]; exact Nat.le_refl _)
      rw [ofs_lit (by omega), rcs_drop] at this
      exact this
    have hRL : (rc r).length = 2 := rfl
    have e0 : (k + 1) * 2 = k * 2 + 2 := by omega
    have hfin : rcs (l.take k) ++ rc r ++ rcs (l.drop k) = rcs (insL l k r) := (insL_rcs l k r).symm
    have hfl : (rcs (insL l k r)).length = (l.length + 1) * 2 := by rw [rcs_len, hin]
    refine WL.capS rfl rfl rfl rfl ?_
    repeat (first | refine WC.seq ?_ | refine WC.reg ?_ | refine WL.pure rfl rfl rfl ?_ | refine WL.nil ?_ | refine WC.skip ?_ | refine WC.block ?_ | refine WC.condT rfl ?_ | refine WC.condF rfl ?_ | refine WL.off rfl rfl rfl ?_ | refine WL.off0 rfl rfl ?_ | refine WC.exit ?_ | refine blk_hit ?_ | refine blk_miss rfl ?_ | refine WC.ret ?_)
    refine WC.cond rfl (fun hc => ?_) (fun hc => ?_)
    · have hroom : pc < l.length + 1 := by have := of_decide_eq_true hc; rw [e1] at this; omega
      have hkk : k + (l.length + 1 - k) = l.length + 1 := by omega
      repeat (first | refine WC.seq ?_ | refine WC.reg ?_ | refine WL.pure rfl rfl rfl ?_ | refine WL.nil ?_ | refine WC.skip ?_ | refine WC.block ?_ | refine WC.condT rfl ?_ | refine WC.condF rfl ?_ | refine WL.off rfl rfl rfl ?_ | refine WL.off0 rfl rfl ?_ | refine WC.exit ?_ | refine blk_hit ?_ | refine blk_miss rfl ?_ | refine WC.ret ?_)
      refine WL.sliceHi (h := k) rfl rfl rfl rfl rfl rfl (by omega) ?_
      repeat (first | refine WC.seq ?_ | refine WC.reg ?_ | refine WL.pure rfl rfl rfl ?_ | refine WL.nil ?_ | refine WC.skip ?_ | refine WC.block ?_ | refine WC.condT rfl ?_ | refine WC.condF rfl ?_ | refine WL.off rfl rfl rfl ?_ | refine WL.off0 rfl rfl ?_ | refine WC.exit ?_ | refine blk_hit ?_ | refine blk_miss rfl ?_ | refine WC.ret ?_)
      refine WL.known (d := 39) (congrArg (fun z => some (Value.int .i64 z)) (show _ = ((l.length + 1 - k : Nat) : Int) by rw [e1]; exact e2)) ?_
      refine WL.appendZ rfl rfl rfl rfl rfl rfl (by decide) rfl (hsl.take (k * 2)) (by rw [rcs_take]; exact hA) rfl (by omega) (by omega) (by unfold maxLen; omega) (by show (k + (l.length + 1 - k)) * 32 ≤ _; omega) ?_
      intro b2 cap2 arr w2 hb2 hsz hc1 hc2 harr
      rw [hkk] at hc1 ⊢
      rw [rcs_take] at harr
      have hszL : arr.toList.length = cap2 * 2 := hsz
      have hp2 := (hp.new hb2)
      have hg2 := hb2.grown
      repeat (first | refine WC.seq ?_ | refine WC.reg ?_ | refine WL.pure rfl rfl rfl ?_ | refine WL.nil ?_ | refine WC.skip ?_ | refine WC.block ?_ | refine WC.condT rfl ?_ | refine WC.condF rfl ?_ | refine WL.off rfl rfl rfl ?_ | refine WL.off0 rfl rfl ?_ | refine WC.exit ?_ | refine blk_hit ?_ | refine blk_miss rfl ?_ | refine WC.ret ?_)
      refine WL.val rfl rfl rfl (ySlB (l := k) rfl rfl rfl rfl (by omega) hc1 (by omega)) ?_
      repeat (first | refine WC.seq ?_ | refine WC.reg ?_ | refine WL.pure rfl rfl rfl ?_ | refine WL.nil ?_ | refine WC.skip ?_ | refine WC.block ?_ | refine WC.condT rfl ?_ | refine WC.condF rfl ?_ | refine WL.off rfl rfl rfl ?_ | refine WL.off0 rfl rfl ?_ | refine WC.exit ?_ | refine blk_hit ?_ | refine blk_miss rfl ?_ | refine WC.ret ?_)
      refine WL.copyB rfl rfl rfl rfl rfl rfl (hp2.obj 0 rfl) (cs := rc r) (by show 2 = min 1 (l.length + 1 - k) * 2; omega) (Sl.of_obj (hp2.obj 2 rfl) (fun q u hq => by simpa [rc] using hq)) (rcs_cells [r]) (by show 0 + k * 2 + 2 ≤ arr.size; rw [hsz]; show _ ≤ cap2 * 2; omega) (arr2 := (arr.toList.take (0 + k * 2) ++ rc r ++ arr.toList.drop (0 + k * 2 + (rc r).length)).toArray) rfl (fun w3 hw3 => ?_)
      have hp3 := hp2.set 0 rfl rfl hw3
      have hs3 : Sl w3 (some ⟨b, 0 + k * 2, none⟩) (rcs (l.drop k)) := by
        have := (Sl.of_row (hp3.at 1 rfl)).ofs (len := l.length) (cap := pc) (l := k) (size := 2) hk hcap (by rw [rcs_len]; exact Nat.le_refl _)
        rw [ofs_lit (by omega), rcs_drop] at this
        exact this
      repeat (first | refine WC.seq ?_ | refine WC.reg ?_ | refine WL.pure rfl rfl rfl ?_ | refine WL.nil ?_ | refine WC.skip ?_ | refine WC.block ?_ | refine WC.condT rfl ?_ | refine WC.condF rfl ?_ | refine WL.off rfl rfl rfl ?_ | refine WL.off0 rfl rfl ?_ | refine WC.exit ?_ | refine blk_hit ?_ | refine blk_miss rfl ?_ | refine WC.ret ?_)
      have hA3 : (arr.toList.take (0 + k * 2) ++ rc r ++ arr.toList.drop (0 + k * 2 + (rc r).length)).length = cap2 * 2 := by
        rw [hRL, List.length_append, List.length_append, List.length_take, List.length_drop, hszL, hRL]
        omega
      refine WC.mid Unit (fun _ => [(9, .slice (some ⟨b2, 0, none⟩) (l.length + 1) cap2)]) (fun _ w' => Hp w0 w' (Rt (.slice (some ⟨b2, 0, none⟩) (insL l k r).length cap2) (insL l k r) :: Bx vb r :: L)) ?_ ?_
      · refine WC.regS 8 mixed (by kernel_rfl) rfl rfl (fun w4 hw4 hh4 => ?_)
        have hp4 := hp3.keep hw4
        repeat (first | refine WS.pure rfl rfl rfl ?_ | refine WS.off rfl rfl rfl ?_ | refine WS.nil ?_)
        refine WS.known (d := 49) (congrArg (fun z => some (Value.int .i64 z)) ek1) ?_
        refine WS.val rfl rfl (ySlB (l := k + 1) rfl rfl rfl rfl (by omega) hc1 (by omega)) ?_
        repeat (first | refine WS.pure rfl rfl rfl ?_ | refine WS.off rfl rfl rfl ?_ | refine WS.nil ?_)
        refine WS.val rfl rfl (ySlB (l := k) rfl rfl rfl rfl (by omega) hnc (by omega)) ?_
        repeat (first | refine WS.pure rfl rfl rfl ?_ | refine WS.off rfl rfl rfl ?_ | refine WS.nil ?_)
        have hs4 : Sl w4 (some ⟨b, 0 + k * 2, none⟩) (rcs (l.drop k)) := by
          have := (Sl.of_row (hp4.at 1 rfl)).ofs (len := l.length) (cap := pc) (l := k) (size := 2) hk hcap (by rw [rcs_len]; exact Nat.le_refl _)
          rw [ofs_lit (by omega), rcs_drop] at this
          exact this
        have e5 : (arr.toList.take (0 + k * 2) ++ rc r ++ arr.toList.drop (0 + k * 2 + (rc r).length)).toArray.toList.take (0 + (k + 1) * 2) ++ rcs (l.drop k) ++ (arr.toList.take (0 + k * 2) ++ rc r ++ arr.toList.drop (0 + k * 2 + (rc r).length)).toArray.toList.drop (0 + (k + 1) * 2 + (rcs (l.drop k)).length) = rcs (insL l k r) ++ arr.toList.drop (k * 2 + 2 + (rcs (l.drop k)).length) := by
          rw [Nat.zero_add, Nat.zero_add, hRL, e0, ins_new hA harr hRL (by rw [hB, hszL]; omega), hfin]
        refine WL.copyB rfl rfl rfl rfl rfl rfl (hp4.obj 0 rfl) (cs := rcs (l.drop k)) (by rw [hB]; show (l.length - k) * 2 = min (l.length - k) (l.length + 1 - (k + 1)) * 2; congr 1; omega) hs4 (rcs_cells _) (by rw [hB, List.size_toArray, hA3]; show 0 + (k + 1) * 2 + (l.length - k) * 2 ≤ _; omega) (arr2 := (rcs (insL l k r) ++ arr.toList.drop (k * 2 + 2 + (rcs (l.drop k)).length)).toArray) (congrArg List.toArray e5) (fun w5 hw5 => ?_)
        have hp5 := (hp4.set 0 rfl rfl hw5).drop1
        repeat (first | refine WC.seq ?_ | refine WC.reg ?_ | refine WL.pure rfl rfl rfl ?_ | refine WL.nil ?_ | refine WC.skip ?_ | refine WC.block ?_ | refine WC.condT rfl ?_ | refine WC.condF rfl ?_ | refine WL.off rfl rfl rfl ?_ | refine WL.off0 rfl rfl ?_ | refine WC.exit ?_ | refine blk_hit ?_ | refine blk_miss rfl ?_ | refine WC.ret ?_)
        refine ⟨(), ⟨rfl, rfl⟩, ?_⟩
        have h6 := hp5.rowN (s := 2) (n := l.length + 1) (cap := cap2) (by rw [List.size_toArray, List.length_append, hfl, List.length_drop, hB, hszL]; omega) hc1 hc2
        rw [List.toList_toArray, List.take_left' hfl] at h6
        unfold Rt
        rw [hin]
        exact h6
      · rintro _ e6 w6 hsub hp6
        refine WC.sub hsub ?_
        repeat (first | refine WC.seq ?_ | refine WC.reg ?_ | refine WL.pure rfl rfl rfl ?_ | refine WL.nil ?_ | refine WC.skip ?_ | refine WC.block ?_ | refine WC.condT rfl ?_ | refine WC.condF rfl ?_ | refine WL.off rfl rfl rfl ?_ | refine WL.off0 rfl rfl ?_ | refine WC.exit ?_ | refine blk_hit ?_ | refine blk_miss rfl ?_ | refine WC.ret ?_)
        exact Res.one (v := .slice (some ⟨b2, 0, none⟩) (l.length + 1) cap2) rfl rfl rfl ⟨_, _, by rw [hin], by rw [hin] at hp6; rw [← hin] at hp6 ⊢; exact hp6⟩
    · have hroom : l.length + 1 ≤ pc := by have := of_decide_eq_false hc; rw [e1] at this; omega
      have hcl : cur.toList.length = pc * 2 := hcs
      obtain ⟨X, hX⟩ : ∃ X, cur.toList = rcs (l.take k) ++ (rcs (l.drop k) ++ X) := ⟨cur.toList.drop (l.length * 2), by rw [← List.append_assoc, ← hAB, ← hct, List.take_append_drop]⟩
      have hXl : X.length + l.length * 2 = pc * 2 := by
        have := congrArg List.length hX
        rw [hcl, List.length_append, List.length_append, hA, hB] at this
        omega
      repeat (first | refine WC.seq ?_ | refine WC.reg ?_ | refine WL.pure rfl rfl rfl ?_ | refine WL.nil ?_ | refine WC.skip ?_ | refine WC.block ?_ | refine WC.condT rfl ?_ | refine WC.condF rfl ?_ | refine WL.off rfl rfl rfl ?_ | refine WL.off0 rfl rfl ?_ | refine WC.exit ?_ | refine blk_hit ?_ | refine blk_miss rfl ?_ | refine WC.ret ?_)
      refine WL.known (d := 59) (congrArg (fun z => some (Value.int .i64 z)) e1) ?_
      refine WL.sliceHi (h := l.length + 1) rfl rfl rfl rfl rfl rfl hroom ?_
      repeat (first | refine WC.seq ?_ | refine WC.reg ?_ | refine WL.pure rfl rfl rfl ?_ | refine WL.nil ?_ | refine WC.skip ?_ | refine WC.block ?_ | refine WC.condT rfl ?_ | refine WC.condF rfl ?_ | refine WL.off rfl rfl rfl ?_ | refine WL.off0 rfl rfl ?_ | refine WC.exit ?_ | refine blk_hit ?_ | refine blk_miss rfl ?_ | refine WC.ret ?_)
      refine WL.known (d := 65) (congrArg (fun z => some (Value.int .i64 z)) ek1) ?_
      refine WL.val rfl rfl rfl (ySlB (l := k + 1) rfl rfl rfl rfl (by omega) hroom (by omega)) ?_
      have hne : vb ≠ b := by
        have := (List.pairwise_cons.1 hpb.dist).1 (Bx vb r) (by simp) b rfl
        exact this
      refine WL.callX rfl rfl rfl rfl rfl (overlaps_run w 0 b vb (0 + (k + 1) * ti56.size) 1 1 (l.length + 1 - (k + 1)) (pc - (k + 1)) _ _ _ _ hne (hpb.obj 1 rfl) (hpb.obj 0 rfl) (by omega)) ?_
      repeat (first | refine WC.seq ?_ | refine WC.reg ?_ | refine WL.pure rfl rfl rfl ?_ | refine WL.nil ?_ | refine WC.skip ?_ | refine WC.block ?_ | refine WC.condT rfl ?_ | refine WC.condF rfl ?_ | refine WL.off rfl rfl rfl ?_ | refine WL.off0 rfl rfl ?_ | refine WC.exit ?_ | refine blk_hit ?_ | refine blk_miss rfl ?_ | refine WC.ret ?_)
      refine WC.mid Unit (fun _ => [(0, .slice (some ⟨b, 0, none⟩) (l.length + 1) pc), (1, .int .i64 (k : Nat)), (2, .slice (some ⟨vb, 0, none⟩) 1 1)]) (fun _ w' => Hp w0 w' (.blk b (.cells (cur.toList.take (0 + (k + 1) * 2) ++ rcs (l.drop k) ++ cur.toList.drop (0 + (k + 1) * 2 + (rcs (l.drop k)).length)).toArray 56 (0, 0)) :: Bx vb r :: L)) ?_ ?_
      · refine WC.regS 8 mixed (by kernel_rfl) rfl rfl (fun w4 hw4 hh4 => ?_)
        have hp4 := hpb.keep hw4
        repeat (first | refine WS.pure rfl rfl rfl ?_ | refine WS.off rfl rfl rfl ?_ | refine WS.nil ?_)
        refine WS.known (d := 72) (congrArg (fun z => some (Value.int .i64 z)) ek1) ?_
        refine WS.val rfl rfl (ySlB (l := k + 1) rfl rfl rfl rfl (by omega) hroom (by omega)) ?_
        repeat (first | refine WS.pure rfl rfl rfl ?_ | refine WS.off rfl rfl rfl ?_ | refine WS.nil ?_)
        refine WS.val rfl rfl (ySlB (l := k) rfl rfl rfl rfl (by omega) hroom (by omega)) ?_
        repeat (first | refine WS.pure rfl rfl rfl ?_ | refine WS.off rfl rfl rfl ?_ | refine WS.nil ?_)
        have hs4 : Sl w4 (some ⟨b, 0 + k * 2, none⟩) (rcs (l.drop k)) := by
          have := (Sl.of_row ((hp.keep hw4).at 0 rfl)).ofs (len := l.length) (cap := pc) (l := k) (size := 2) hk hcap (by rw [rcs_len]; exact Nat.le_refl _)
          rw [ofs_lit (by omega), rcs_drop] at this
          exact this
        refine WL.copyB rfl rfl rfl rfl rfl rfl (hp4.obj 0 rfl) (cs := rcs (l.drop k)) (by rw [hB]; show (l.length - k) * 2 = min (l.length + 1 - k) (l.length + 1 - (k + 1)) * 2; congr 1; omega) hs4 (rcs_cells _) (by rw [hB]; show 0 + (k + 1) * 2 + (l.length - k) * 2 ≤ _; omega) rfl (fun w5 hw5 => ?_)
        have hp5 := hp4.set 0 rfl rfl hw5
        repeat (first | refine WC.seq ?_ | refine WC.reg ?_ | refine WL.pure rfl rfl rfl ?_ | refine WL.nil ?_ | refine WC.skip ?_ | refine WC.block ?_ | refine WC.condT rfl ?_ | refine WC.condF rfl ?_ | refine WL.off rfl rfl rfl ?_ | refine WL.off0 rfl rfl ?_ | refine WC.exit ?_ | refine blk_hit ?_ | refine blk_miss rfl ?_ | refine WC.ret ?_)
        exact ⟨(), ⟨rfl, rfl, rfl, rfl⟩, hp5⟩
      · rintro _ e6 w6 hsub hp6
        refine WC.sub hsub ?_
        have e7 : ((cur.toList.take (0 + (k + 1) * 2) ++ rcs (l.drop k) ++ cur.toList.drop (0 + (k + 1) * 2 + (rcs (l.drop k)).length)).toArray.toList.take (0 + k * 2) ++ rc r ++ (cur.toList.take (0 + (k + 1) * 2) ++ rcs (l.drop k) ++ cur.toList.drop (0 + (k + 1) * 2 + (rcs (l.drop k)).length)).toArray.toList.drop (0 + k * 2 + (rc r).length)) = rcs (insL l k r) ++ X.drop 2 := by
          rw [Nat.zero_add, Nat.zero_add, hRL, e0, hX, ins_room hA hRL (by omega), hfin]
        have hA3 : (cur.toList.take (0 + (k + 1) * 2) ++ rcs (l.drop k) ++ cur.toList.drop (0 + (k + 1) * 2 + (rcs (l.drop k)).length)).toArray.size = pc * 2 := by
          rw [List.size_toArray, List.length_append, List.length_append, List.length_take, List.length_drop, hcl, hB]
          omega
        generalize hY : (cur.toList.take (0 + (k + 1) * 2) ++ rcs (l.drop k) ++ cur.toList.drop (0 + (k + 1) * 2 + (rcs (l.drop k)).length)).toArray = Y at hp6 e7 hA3
        repeat (first | refine WC.seq ?_ | refine WC.reg ?_ | refine WL.pure rfl rfl rfl ?_ | refine WL.nil ?_ | refine WC.skip ?_ | refine WC.block ?_ | refine WC.condT rfl ?_ | refine WC.condF rfl ?_ | refine WL.off rfl rfl rfl ?_ | refine WL.off0 rfl rfl ?_ | refine WC.exit ?_ | refine blk_hit ?_ | refine blk_miss rfl ?_ | refine WC.ret ?_)
        refine WL.val rfl rfl rfl (ySlB (l := k) rfl rfl rfl rfl (by omega) hroom (by omega)) ?_
        repeat (first | refine WC.seq ?_ | refine WC.reg ?_ | refine WL.pure rfl rfl rfl ?_ | refine WL.nil ?_ | refine WC.skip ?_ | refine WC.block ?_ | refine WC.condT rfl ?_ | refine WC.condF rfl ?_ | refine WL.off rfl rfl rfl ?_ | refine WL.off0 rfl rfl ?_ | refine WC.exit ?_ | refine blk_hit ?_ | refine blk_miss rfl ?_ | refine WC.ret ?_)
        refine WL.copyB rfl rfl rfl rfl rfl rfl (hp6.obj 0 rfl) (cs := rc r) (by show 2 = min 1 (l.length + 1 - k) * 2; omega) (Sl.of_obj (hp6.obj 1 rfl) (fun q u hq => by simpa [rc] using hq)) (rcs_cells [r]) (by show 0 + k * 2 + 2 ≤ Y.size; omega) (arr2 := (rcs (insL l k r) ++ X.drop 2).toArray) (congrArg List.toArray e7) (fun w7 hw7 => ?_)
        have hp7 := hp6.set 0 rfl rfl hw7
        repeat (first | refine WC.seq ?_ | refine WC.reg ?_ | refine WL.pure rfl rfl rfl ?_ | refine WL.nil ?_ | refine WC.skip ?_ | refine WC.block ?_ | refine WC.condT rfl ?_ | refine WC.condF rfl ?_ | refine WL.off rfl rfl rfl ?_ | refine WL.off0 rfl rfl ?_ | refine WC.exit ?_ | refine blk_hit ?_ | refine blk_miss rfl ?_ | refine WC.ret ?_)
        have h8 := hp7.rowN (s := 2) (n := l.length + 1) (cap := pc) (by rw [List.size_toArray, List.length_append, hfl, List.length_drop]; omega) hroom hcm
        rw [List.toList_toArray, List.take_left' hfl] at h8
        refine Res.one (v := .slice (some ⟨b, 0, none⟩) (l.length + 1) pc) rfl rfl rfl ⟨some ⟨b, 0, none⟩, pc, by rw [hin], ?_⟩
        unfold Rt
        rw [hin]
        exact h8
end Go.Proofs.YtoghnhbjdnjghaaGreat
