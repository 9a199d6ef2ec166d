/- The walks of sums and of the spreading of counts. -/
import Derived.Test.YtoghnhbjdnjghaaGreatV18
import Derived.Laws.Externs
namespace Go.W
open Go.RowKit
def zs (xs : List Int) : List Value := xs.map (Value.int .i64)
theorem zs_len (xs : List Int) : (zs xs).length = xs.length := by simp [zs]
theorem zs_at {xs : List Int} {i : Nat} (h : i < xs.length) : (zs xs)[i]? = some (.int .i64 xs[i]) := by simp [zs, h]
theorem zs_cells (xs : List Int) : Cells (zs xs) := by
  intro v hv
  obtain ⟨x, _, rfl⟩ := List.mem_map.1 hv
  rfl
theorem zs_set (xs : List Int) (i : Nat) (x : Int) : (zs xs).toArray.setIfInBounds i (.int .i64 x) = (zs (xs.set i x)).toArray := by
  simp [zs, List.map_set]
end Go.W
namespace Go.Words
open Go.W
/-- A sum, if it is not too great. -/
def totN : Int → List Int → Option Int
  | s, [] => some s
  | s, n :: l => if 4611686018427387904 - s < n then none else totN (s + n) l
def totM (l : List Int) : Option Int := totN 0 l
theorem totN_at {l : List Int} {i : Nat} {s : Int} (h : i < l.length) : totN s (l.drop i) = if 4611686018427387904 - s < l[i] then none else totN (s + l[i]) (l.drop (i + 1)) := by
  rw [List.drop_eq_getElem_cons h, totN]
def spI (n : Int) : List Int → List Int → Option (List Int)
  | [], out => some out
  | t :: row, out => if t < 0 then spI n row out else if 4611686018427387904 < out.getD t.toNat 0 + n then none else spI n row (out.set t.toNat (out.getD t.toNat 0 + n))
def spO : List Int → List (List Int) → List Int → Option (List Int)
  | n :: now, row :: tab, out => match spI n row out with
    | none => none
    | some o => spO now tab o
  | [], _, out => some out
  | _ :: _, [], out => some out
def spM (tab : List (List Int)) (now : List Int) : Option (List Int) := spO now tab (List.replicate now.length 0)
theorem spI_at {n : Int} {row : List Int} {i : Nat} {out : List Int} (h : i < row.length) : spI n (row.drop i) out = if row[i] < 0 then spI n (row.drop (i + 1)) out else if 4611686018427387904 < out.getD row[i].toNat 0 + n then none else spI n (row.drop (i + 1)) (out.set row[i].toNat (out.getD row[i].toNat 0 + n)) := by
  rw [List.drop_eq_getElem_cons h, spI]
theorem spO_at {now : List Int} {tab : List (List Int)} {i : Nat} {out : List Int} (h : i < now.length) (h2 : i < tab.length) : spO (now.drop i) (tab.drop i) out = match spI now[i] tab[i] out with
    | none => none
    | some o => spO (now.drop (i + 1)) (tab.drop (i + 1)) o := by
  rw [List.drop_eq_getElem_cons h, List.drop_eq_getElem_cons h2, spO]
/-- Counts: none is negative or too great. -/
def Cnt (l : List Int) : Prop := ∀ n ∈ l, 0 ≤ n ∧ n ≤ 4611686018427387904
theorem Cnt.at_ {l : List Int} (h : Cnt l) {i : Nat} (hi : i < l.length) : 0 ≤ l[i] ∧ l[i] ≤ 4611686018427387904 := h _ (List.getElem_mem hi)
theorem Cnt.set {l : List Int} (h : Cnt l) (i : Nat) {x : Int} (h0 : 0 ≤ x) (h1 : x ≤ 4611686018427387904) : Cnt (l.set i x) := fun n hn => by
  rcases List.mem_or_eq_of_mem_set hn with h2 | rfl
  · exact h n h2
  · exact ⟨h0, h1⟩
theorem getD_i {l : List Int} {i : Nat} (h : i < l.length) : l.getD i 0 = l[i] := by
  rw [List.getD_eq_getElem?_getD, List.getElem?_eq_getElem h]; rfl
/-- A table of m states. -/
def Tb (m : Nat) (tab : List (List Int)) : Prop := ∀ row ∈ tab, row.length ≤ 1000 ∧ ∀ t ∈ row, t < (m : Int)
theorem spI_inv {n : Int} (h0 : 0 ≤ n) : ∀ (row out o : List Int), spI n row out = some o → Cnt out → (∀ t ∈ row, t < (out.length : Int)) → Cnt o ∧ o.length = out.length := by
  intro row
  induction row with
  | nil => intro out o h hc _; obtain rfl := Option.some.inj h; exact ⟨hc, rfl⟩
  | cons t row ih =>
    intro out o h hc ht
    rw [spI] at h
    split at h
    · exact ih out o h hc (fun t ht' => ht t (by simp [ht']))
    · rename_i h1
      split at h
      · cases h
      · rename_i h2
        have h3 := ht t (by simp)
        have hg := getD_i (l := out) (i := t.toNat) (by omega)
        have hcc := hc.at_ (i := t.toNat) (by omega)
        obtain ⟨k1, k2⟩ := ih _ o h (hc.set t.toNat (by omega) (by omega)) (fun t ht' => by rw [List.length_set]; exact ht t (by simp [ht']))
        exact ⟨k1, by rw [k2, List.length_set]⟩
end Go.Words
namespace Go.Proofs.YtoghnhbjdnjghaaGreat
open Go.W Go.Words Go.RowKit
set_option maxRecDepth 100000
attribute [local irreducible] WC WL WQ WS WH

def totV : Option Int → Value
  | some s => .tuple #[.int .i64 s, .bool true]
  | none => .tuple #[.int .i64 0, .bool false]
theorem total_any (a : Option Addr) (cap : Nat) (l : List Int) (hl : l.length ≤ 1000000) (hc : Cnt l) (w : World) (hs : Sl w a (zs l)) :
    Ret Tryz.prog 55 [.slice a l.length cap] w fun u w' => u = totV (totM l) ∧ w' = w := by
  refine enter Tryz.func55 rfl rfl ⟨rfl, rfl⟩ rfl ?_
  repeat (first | refine WC.seq ?_ | refine WC.reg ?_ | refine WL.pure rfl rfl rfl ?_ | refine WL.nil ?_ | refine WC.skip ?_ | refine WC.block ?_ | refine WC.condT rfl ?_ | refine WC.condF rfl ?_ | refine WL.off rfl rfl rfl ?_ | refine WL.off0 rfl rfl ?_ | refine WC.exit ?_ | refine blk_hit ?_ | refine blk_miss rfl ?_ | refine WC.ret ?_)
  refine WC.loop (Nat × Int) (fun (i, s) => [(4, .int .i64 s), (7, .slice a l.length cap), (8, .int .i64 (l.length : Nat)), (9, .int .i64 (i : Nat))])
    (fun (i, s) w' => i ≤ l.length ∧ 0 ≤ s ∧ s ≤ 4611686018427387904 ∧ totM l = totN s (l.drop i) ∧ w = w') (fun (i, _) => l.length - i) (0, 0) ⟨rfl, rfl, rfl, rfl, rfl⟩ ⟨Nat.zero_le _, Int.le_refl _, by decide, rfl, rfl⟩ ?_
  rintro ⟨i, s⟩ w1 ⟨hi, h0, h1, hT, rfl⟩
  repeat (first | refine WC.seq ?_ | refine WC.reg ?_ | refine WL.pure rfl rfl rfl ?_ | refine WL.nil ?_ | refine WC.skip ?_ | refine WC.block ?_ | refine WC.condT rfl ?_ | refine WC.condF rfl ?_ | refine WL.off rfl rfl rfl ?_ | refine WL.off0 rfl rfl ?_ | refine WC.exit ?_ | refine blk_hit ?_ | refine blk_miss rfl ?_ | refine WC.ret ?_)
  refine WC.cond rfl (fun hc1 => ?_) (fun hc1 => ?_)
  · have hi : i < l.length := by have := of_decide_eq_true hc1; omega
    have step := wrap_succ hi (by omega)
    have hn := hc.at_ hi
    have e1 : IntKind.i64.wrap (4611686018427387904 - s) = 4611686018427387904 - s := wrap_i64_in (by omega) (by omega)
    rw [totN_at hi] at hT
    repeat (first | refine WC.seq ?_ | refine WC.reg ?_ | refine WL.pure rfl rfl rfl ?_ | refine WL.nil ?_ | refine WC.skip ?_ | refine WC.block ?_ | refine WC.condT rfl ?_ | refine WC.condF rfl ?_ | refine WL.off rfl rfl rfl ?_ | refine WL.off0 rfl rfl ?_ | refine WC.exit ?_ | refine blk_hit ?_ | refine blk_miss rfl ?_ | refine WC.ret ?_)
    refine WL.ixload rfl (fun _ => rfl) rfl rfl rfl rfl rfl rfl rfl hi rfl rfl hs (zs_at hi) ?_
    intro pp
    generalize l[i] = n at *
    repeat (first | refine WC.seq ?_ | refine WC.reg ?_ | refine WL.pure rfl rfl rfl ?_ | refine WL.nil ?_ | refine WC.skip ?_ | refine WC.block ?_ | refine WC.condT rfl ?_ | refine WC.condF rfl ?_ | refine WL.off rfl rfl rfl ?_ | refine WL.off0 rfl rfl ?_ | refine WC.exit ?_ | refine blk_hit ?_ | refine blk_miss rfl ?_ | refine WC.ret ?_)
    refine WC.cond rfl (fun h2 => ?_) (fun h2 => ?_)
    · have h2 : 4611686018427387904 - s < n := by have := of_decide_eq_true h2; rw [e1] at this; exact this
      rw [if_pos h2] at hT
      repeat (first | refine WC.seq ?_ | refine WC.reg ?_ | refine WL.pure rfl rfl rfl ?_ | refine WL.nil ?_ | refine WC.skip ?_ | refine WC.block ?_ | refine WC.condT rfl ?_ | refine WC.condF rfl ?_ | refine WL.off rfl rfl rfl ?_ | refine WL.off0 rfl rfl ?_ | refine WC.exit ?_ | refine blk_hit ?_ | refine blk_miss rfl ?_ | refine WC.ret ?_)
      exact Res.two rfl rfl rfl rfl ⟨by rw [hT]; rfl, rfl⟩
    · have h2 : ¬ 4611686018427387904 - s < n := by have := of_decide_eq_false h2; rw [e1] at this; exact this
      have e2 : IntKind.i64.wrap (s + n) = s + n := wrap_i64_in (by omega) (by omega)
      rw [if_neg h2] at hT
      repeat (first | refine WC.seq ?_ | refine WC.reg ?_ | refine WL.pure rfl rfl rfl ?_ | refine WL.nil ?_ | refine WC.skip ?_ | refine WC.block ?_ | refine WC.condT rfl ?_ | refine WC.condF rfl ?_ | refine WL.off rfl rfl rfl ?_ | refine WL.off0 rfl rfl ?_ | refine WC.exit ?_ | refine blk_hit ?_ | refine blk_miss rfl ?_ | refine WC.ret ?_)
      exact ⟨(i + 1, s + n), (by show l.length - (i + 1) < l.length - i; omega), ⟨congrArg (fun z => some (Value.int .i64 z)) e2, rfl, rfl, congrArg (fun z => some (Value.int .i64 z)) step, rfl⟩, by omega, by omega, by omega, hT, rfl⟩
  · have hi : l.length ≤ i := by have := of_decide_eq_false hc1; omega
    rw [List.drop_of_length_le hi] at hT
    repeat (first | refine WC.seq ?_ | refine WC.reg ?_ | refine WL.pure rfl rfl rfl ?_ | refine WL.nil ?_ | refine WC.skip ?_ | refine WC.block ?_ | refine WC.condT rfl ?_ | refine WC.condF rfl ?_ | refine WL.off rfl rfl rfl ?_ | refine WL.off0 rfl rfl ?_ | refine WC.exit ?_ | refine blk_hit ?_ | refine blk_miss rfl ?_ | refine WC.ret ?_)
    exact Res.two rfl rfl rfl rfl ⟨by rw [hT]; rfl, rfl⟩
theorem add_run (x y : Int) (hx : 0 ≤ x) (hy : 0 ≤ y) (hs : x + y < 18446744073709551616) (w : World) : (callFunc 81 ([.int .u64 x, .int .u64 y, .int .u64 0] : List Value).toArray).run Tryz.prog w = .ok (.value (.tuple #[.int .u64 (x + y), .int .u64 0])) w := by
  have h := run_add64 (P := Tryz.prog) x y 0 hx hy (Int.le_refl _) (by decide) w
  rw [run_callFunc_extern Tryz.func81 (by kernel_rfl) (by kernel_rfl) (by kernel_rfl) (e := add64Entry) (by kernel_rfl)]
  show ((add64Entry #[.int .u64 x, .int .u64 y, .int .u64 0]).run Tryz.prog w).andThen _ = _
  rw [h, show (x + y + 0) % 18446744073709551616 = x + y by omega, show (x + y + 0) / 18446744073709551616 = 0 by omega]
  rfl
/-- The rows of the automaton, by their blocks. -/
abbrev Rws := List (Nat × List Int)
def rwV (R : Rws) : List Value := R.map fun x => .slice (some ⟨x.1, 0, none⟩) x.2.length x.2.length
/-- The automaton in memory: what can be read. -/
structure Aut (w : World) (xb : Nat) (R : Rws) : Prop where
  top : ∃ na nc, w.heap[xb]? = some (.cells #[.slice na R.length nc] 84 (0, 0)) ∧ Sl w na (rwV R)
  rows : ∀ x ∈ R, Sl w (some ⟨x.1, 0, none⟩) (zs x.2)
theorem Aut.hp {w w' : World} {xb : Nat} {R : Rws} {L : List Ent} (h : Aut w xb R) (hp : Hp w w' L) : Aut w' xb R := by
  obtain ⟨na, nc, h1, h2⟩ := h.top
  have hlt := (Array.getElem?_eq_some_iff.1 h1).1
  exact ⟨⟨na, nc, by rw [← h1]; exact hp.below.block xb hlt, h2.hp hp⟩, fun x hx => (h.rows x hx).hp hp⟩
theorem rwV_at {R : Rws} {i : Nat} (h : i < R.length) : (rwV R)[i]? = some (.slice (some ⟨R[i].1, 0, none⟩) R[i].2.length R[i].2.length) := by simp [rwV, h]
/-- What spread hands back. -/
def SprP (o : Option (List Int)) (w : World) (u : Value) (w' : World) : Prop := match o with
  | some l => ∃ b, u = .tuple #[.slice (some ⟨b, 0, none⟩) l.length l.length, .bool true] ∧ Hp w w' [.blk b (.cells (zs l).toArray 3 (0, 0))]
  | none => u = .tuple #[.slice none 0 0, .bool false] ∧ Hp w w' []
set_option maxHeartbeats 1000000 in
theorem spread_any (xb : Nat) (R : Rws) (a : Option Addr) (cap : Nat) (now : List Int) (hR : R.length = now.length) (hl : now.length ≤ 1000000) (hT : Tb now.length (R.map (·.2))) (hc : Cnt now) (w : World) (hA : Aut w xb R) (hs : Sl w a (zs now)) :
    Ret Tryz.prog 56 [.pointer (some ⟨xb, 0, none⟩), .slice a now.length cap] w (SprP (spM (R.map (·.2)) now) w) := by
  refine enter Tryz.func56 rfl rfl ⟨rfl, rfl⟩ rfl ?_
  repeat (first | refine WC.seq ?_ | refine WC.reg ?_ | refine WL.pure rfl rfl rfl ?_ | refine WL.nil ?_ | refine WC.skip ?_ | refine WC.block ?_ | refine WC.condT rfl ?_ | refine WC.condF rfl ?_ | refine WL.off rfl rfl rfl ?_ | refine WL.off0 rfl rfl ?_ | refine WC.exit ?_ | refine blk_hit ?_ | refine blk_miss rfl ?_ | refine WC.ret ?_)
  refine WL.make rfl rfl rfl rfl rfl rfl rfl rfl (by show 8 * now.length ≤ _; omega) (by unfold maxLen; omega) ?_
  intro ob w1 hob
  have hp1 : Hp w w1 [.blk ob (.cells (zs (List.replicate now.length 0)).toArray 3 (0, 0))] := by
    have := (Hp.start w).new hob
    unfold zs
    rw [List.map_replicate]
    exact this
  repeat (first | refine WC.seq ?_ | refine WC.reg ?_ | refine WL.pure rfl rfl rfl ?_ | refine WL.nil ?_ | refine WC.skip ?_ | refine WC.block ?_ | refine WC.condT rfl ?_ | refine WC.condF rfl ?_ | refine WL.off rfl rfl rfl ?_ | refine WL.off0 rfl rfl ?_ | refine WC.exit ?_ | refine blk_hit ?_ | refine blk_miss rfl ?_ | refine WC.ret ?_)
  refine WC.loop (Nat × List Int) (fun (i, _) => [(0, .pointer (some ⟨xb, 0, none⟩)), (6, .slice (some ⟨ob, 0, none⟩) now.length now.length), (16, .slice a now.length cap), (17, .int .i64 (now.length : Nat)), (18, .int .i64 (i : Nat))])
    (fun (i, out) w' => i ≤ now.length ∧ out.length = now.length ∧ Cnt out ∧ spM (R.map (·.2)) now = spO (now.drop i) ((R.map (·.2)).drop i) out ∧ Hp w w' [.blk ob (.cells (zs out).toArray 3 (0, 0))]) (fun (i, _) => now.length - i) (0, List.replicate now.length 0) ⟨rfl, rfl, rfl, rfl, rfl, rfl⟩
    ⟨Nat.zero_le _, List.length_replicate, fun n hn => by rw [List.eq_of_mem_replicate hn]; decide, rfl, hp1⟩ ?_
  clear hp1 hob w1
  rintro ⟨i, out⟩ w1 ⟨hi, hol, hco, hS, hp1⟩
  repeat (first | refine WC.seq ?_ | refine WC.reg ?_ | refine WL.pure rfl rfl rfl ?_ | refine WL.nil ?_ | refine WC.skip ?_ | refine WC.block ?_ | refine WC.condT rfl ?_ | refine WC.condF rfl ?_ | refine WL.off rfl rfl rfl ?_ | refine WL.off0 rfl rfl ?_ | refine WC.exit ?_ | refine blk_hit ?_ | refine blk_miss rfl ?_ | refine WC.ret ?_)
  refine WC.cond rfl (fun hc1 => ?_) (fun hc1 => ?_)
  · have hi : i < now.length := by have := of_decide_eq_true hc1; omega
    have hiR : i < R.length := by omega
    have step := wrap_succ hi (by omega)
    have hn := hc.at_ hi
    have hrow := hT R[i].2 (List.mem_map.2 ⟨R[i], List.getElem_mem hiR, rfl⟩)
    rw [spO_at hi (by rw [List.length_map]; exact hiR), List.getElem_map] at hS
    obtain ⟨na, nc, ht1, ht2⟩ := (hA.hp hp1).top
    repeat (first | refine WC.seq ?_ | refine WC.reg ?_ | refine WL.pure rfl rfl rfl ?_ | refine WL.nil ?_ | refine WC.skip ?_ | refine WC.block ?_ | refine WC.condT rfl ?_ | refine WC.condF rfl ?_ | refine WL.off rfl rfl rfl ?_ | refine WL.off0 rfl rfl ?_ | refine WC.exit ?_ | refine blk_hit ?_ | refine blk_miss rfl ?_ | refine WC.ret ?_)
    refine WL.ixload rfl (fun _ => rfl) rfl rfl rfl rfl rfl rfl rfl hi rfl rfl (hs.hp hp1) (zs_at hi) ?_
    intro pp
    generalize now[i] = n at *
    repeat (first | refine WC.seq ?_ | refine WC.reg ?_ | refine WL.pure rfl rfl rfl ?_ | refine WL.nil ?_ | refine WC.skip ?_ | refine WC.block ?_ | refine WC.condT rfl ?_ | refine WC.condF rfl ?_ | refine WL.off rfl rfl rfl ?_ | refine WL.off0 rfl rfl ?_ | refine WC.exit ?_ | refine blk_hit ?_ | refine blk_miss rfl ?_ | refine WC.ret ?_)
    refine WL.nilC rfl rfl rfl ?_
    repeat (first | refine WC.seq ?_ | refine WC.reg ?_ | refine WL.pure rfl rfl rfl ?_ | refine WL.nil ?_ | refine WC.skip ?_ | refine WC.block ?_ | refine WC.condT rfl ?_ | refine WC.condF rfl ?_ | refine WL.off rfl rfl rfl ?_ | refine WL.off0 rfl rfl ?_ | refine WC.exit ?_ | refine blk_hit ?_ | refine blk_miss rfl ?_ | refine WC.ret ?_)
    refine WL.loadB rfl rfl rfl rfl rfl ht1 (j := 0) rfl ?_
    repeat (first | refine WC.seq ?_ | refine WC.reg ?_ | refine WL.pure rfl rfl rfl ?_ | refine WL.nil ?_ | refine WC.skip ?_ | refine WC.block ?_ | refine WC.condT rfl ?_ | refine WC.condF rfl ?_ | refine WL.off rfl rfl rfl ?_ | refine WL.off0 rfl rfl ?_ | refine WC.exit ?_ | refine blk_hit ?_ | refine blk_miss rfl ?_ | refine WC.ret ?_)
    refine WL.ixload rfl (fun _ => rfl) rfl rfl rfl rfl rfl rfl rfl hiR rfl rfl ht2 (rwV_at hiR) ?_
    intro pp2
    have hrs := hA.rows R[i] (List.getElem_mem hiR)
    generalize R[i].2 = row at *
    generalize R[i].1 = rb at *
    repeat (first | refine WC.seq ?_ | refine WC.reg ?_ | refine WL.pure rfl rfl rfl ?_ | refine WL.nil ?_ | refine WC.skip ?_ | refine WC.block ?_ | refine WC.condT rfl ?_ | refine WC.condF rfl ?_ | refine WL.off rfl rfl rfl ?_ | refine WL.off0 rfl rfl ?_ | refine WC.exit ?_ | refine blk_hit ?_ | refine blk_miss rfl ?_ | refine WC.ret ?_)
    refine WC.loop (Nat × List Int) (fun (k, _) => [(0, .pointer (some ⟨xb, 0, none⟩)), (6, .slice (some ⟨ob, 0, none⟩) now.length now.length), (8, .int .i64 n), (16, .slice a now.length cap), (17, .int .i64 (now.length : Nat)), (18, .int .i64 (i : Nat)), (29, .slice (some ⟨rb, 0, none⟩) row.length row.length), (30, .int .i64 (row.length : Nat)), (31, .int .i64 (k : Nat))])
      (fun (k, out2) w' => k ≤ row.length ∧ out2.length = now.length ∧ Cnt out2 ∧ spI n row out = spI n (row.drop k) out2 ∧ Hp w w' [.blk ob (.cells (zs out2).toArray 3 (0, 0))]) (fun (k, _) => row.length - k) (0, out) ⟨rfl, rfl, rfl, rfl, rfl, rfl, rfl, rfl, rfl, rfl⟩
      ⟨Nat.zero_le _, hol, hco, rfl, hp1⟩ ?_
    clear hp1 ht1 ht2
    rintro ⟨k, out2⟩ w2 ⟨hk, hol2, hco2, hI, hp2⟩
    repeat (first | refine WC.seq ?_ | refine WC.reg ?_ | refine WL.pure rfl rfl rfl ?_ | refine WL.nil ?_ | refine WC.skip ?_ | refine WC.block ?_ | refine WC.condT rfl ?_ | refine WC.condF rfl ?_ | refine WL.off rfl rfl rfl ?_ | refine WL.off0 rfl rfl ?_ | refine WC.exit ?_ | refine blk_hit ?_ | refine blk_miss rfl ?_ | refine WC.ret ?_)
    refine WC.cond rfl (fun hc2 => ?_) (fun hc2 => ?_)
    · have hk : k < row.length := by have := of_decide_eq_true hc2; omega
      have stepk := wrap_succ hk (by omega)
      have htk := hrow.2 row[k] (List.getElem_mem hk)
      rw [spI_at hk] at hI
      repeat (first | refine WC.seq ?_ | refine WC.reg ?_ | refine WL.pure rfl rfl rfl ?_ | refine WL.nil ?_ | refine WC.skip ?_ | refine WC.block ?_ | refine WC.condT rfl ?_ | refine WC.condF rfl ?_ | refine WL.off rfl rfl rfl ?_ | refine WL.off0 rfl rfl ?_ | refine WC.exit ?_ | refine blk_hit ?_ | refine blk_miss rfl ?_ | refine WC.ret ?_)
      refine WL.ixload rfl (fun _ => rfl) rfl rfl rfl rfl rfl rfl rfl hk rfl rfl (hrs.hp hp2) (zs_at hk) ?_
      intro pp3
      generalize row[k] = t at *
      repeat (first | refine WC.seq ?_ | refine WC.reg ?_ | refine WL.pure rfl rfl rfl ?_ | refine WL.nil ?_ | refine WC.skip ?_ | refine WC.block ?_ | refine WC.condT rfl ?_ | refine WC.condF rfl ?_ | refine WL.off rfl rfl rfl ?_ | refine WL.off0 rfl rfl ?_ | refine WC.exit ?_ | refine blk_hit ?_ | refine blk_miss rfl ?_ | refine WC.ret ?_)
      refine WC.cond rfl (fun h3 => ?_) (fun h3 => ?_)
      · have h3 : t < 0 := of_decide_eq_true h3
        rw [if_pos h3] at hI
        repeat (first | refine WC.seq ?_ | refine WC.reg ?_ | refine WL.pure rfl rfl rfl ?_ | refine WL.nil ?_ | refine WC.skip ?_ | refine WC.block ?_ | refine WC.condT rfl ?_ | refine WC.condF rfl ?_ | refine WL.off rfl rfl rfl ?_ | refine WL.off0 rfl rfl ?_ | refine WC.exit ?_ | refine blk_hit ?_ | refine blk_miss rfl ?_ | refine WC.ret ?_)
        exact ⟨(k + 1, out2), (by show row.length - (k + 1) < row.length - k; omega), ⟨rfl, rfl, rfl, rfl, rfl, rfl, rfl, rfl, congrArg (fun z => some (Value.int .i64 z)) stepk, rfl⟩, by omega, hol2, hco2, hI, hp2⟩
      · have h3 : ¬ t < 0 := of_decide_eq_false h3
        obtain ⟨q, rfl⟩ := Int.eq_ofNat_of_zero_le (show 0 ≤ t by omega)
        have hq : q < out2.length := by omega
        rw [if_neg h3, Int.toNat_natCast, getD_i hq] at hI
        have hv := hco2.at_ hq
        have ev : IntKind.u64.wrap out2[q] = out2[q] := by rw [IntKind.wrap_u64]; omega
        have en : IntKind.u64.wrap n = n := by rw [IntKind.wrap_u64]; omega
        have es : IntKind.i64.wrap (out2[q] + n) = out2[q] + n ∨ 4611686018427387904 < out2[q] + n := by
          rcases Int.lt_or_le 4611686018427387904 (out2[q] + n) with h | h
          · exact .inr h
          · exact .inl (wrap_i64_in (by omega) (by omega))
        have hso : Sl w2 (some ⟨ob, 0, none⟩) (zs out2) := Sl.of_obj (hp2.obj 0 rfl) (fun j u hu => by simpa using hu)
        repeat (first | refine WC.seq ?_ | refine WC.reg ?_ | refine WL.pure rfl rfl rfl ?_ | refine WL.nil ?_ | refine WC.skip ?_ | refine WC.block ?_ | refine WC.condT rfl ?_ | refine WC.condF rfl ?_ | refine WL.off rfl rfl rfl ?_ | refine WL.off0 rfl rfl ?_ | refine WC.exit ?_ | refine blk_hit ?_ | refine blk_miss rfl ?_ | refine WC.ret ?_)
        refine WL.ixload rfl (fun _ => rfl) rfl rfl rfl rfl rfl rfl rfl (j := q) (by omega) rfl rfl hso (zs_at hq) ?_
        intro pp4
        repeat (first | refine WC.seq ?_ | refine WC.reg ?_ | refine WL.pure rfl rfl rfl ?_ | refine WL.nil ?_ | refine WC.skip ?_ | refine WC.block ?_ | refine WC.condT rfl ?_ | refine WC.condF rfl ?_ | refine WL.off rfl rfl rfl ?_ | refine WL.off0 rfl rfl ?_ | refine WC.exit ?_ | refine blk_hit ?_ | refine blk_miss rfl ?_ | refine WC.ret ?_)
        refine WL.known (d := 42) (congrArg (fun z => some (Value.int .u64 z)) ev) ?_
        refine WL.known (d := 44) (congrArg (fun z => some (Value.int .u64 z)) en) ?_
        refine WL.callX rfl rfl rfl rfl rfl (add_run out2[q] n hv.1 hn.1 (by omega) w2) ?_
        repeat (first | refine WC.seq ?_ | refine WC.reg ?_ | refine WL.pure rfl rfl rfl ?_ | refine WL.nil ?_ | refine WC.skip ?_ | refine WC.block ?_ | refine WC.condT rfl ?_ | refine WC.condF rfl ?_ | refine WL.off rfl rfl rfl ?_ | refine WL.off0 rfl rfl ?_ | refine WC.exit ?_ | refine blk_hit ?_ | refine blk_miss rfl ?_ | refine WC.ret ?_)
        refine WC.cond rfl (fun h4 => ?_) (fun h4 => ?_)
        · have h4 : 4611686018427387904 < out2[q] + n := of_decide_eq_true h4
          rw [if_pos h4] at hI
          rw [hI] at hS
          repeat (first | refine WC.seq ?_ | refine WC.reg ?_ | refine WL.pure rfl rfl rfl ?_ | refine WL.nil ?_ | refine WC.skip ?_ | refine WC.block ?_ | refine WC.condT rfl ?_ | refine WC.condF rfl ?_ | refine WL.off rfl rfl rfl ?_ | refine WL.off0 rfl rfl ?_ | refine WC.exit ?_ | refine blk_hit ?_ | refine blk_miss rfl ?_ | refine WC.ret ?_)
          refine Res.two rfl rfl rfl rfl ?_
          rw [hS]
          exact ⟨rfl, hp2.nil'⟩
        · have h4 : ¬ 4611686018427387904 < out2[q] + n := of_decide_eq_false h4
          rw [if_neg h4] at hI
          have es : IntKind.i64.wrap (out2[q] + n) = out2[q] + n := by rcases es with h | h; exact h; exact absurd h h4
          repeat (first | refine WC.seq ?_ | refine WC.reg ?_ | refine WL.pure rfl rfl rfl ?_ | refine WL.nil ?_ | refine WC.skip ?_ | refine WC.block ?_ | refine WC.condT rfl ?_ | refine WC.condF rfl ?_ | refine WL.off rfl rfl rfl ?_ | refine WL.off0 rfl rfl ?_ | refine WC.exit ?_ | refine blk_hit ?_ | refine blk_miss rfl ?_ | refine WC.ret ?_)
          refine WL.known (d := 57) (congrArg (fun z => some (Value.int .i64 z)) es) ?_
          refine WL.ix rfl rfl rfl rfl rfl (j := q) (by omega) rfl ?_
          refine WL.store rfl rfl rfl rfl rfl rfl (hp2.obj 0 rfl) (by rw [List.size_toArray, zs_len]; show 0 + q * 1 < _; omega) (fun w3 hw3 => ?_)
          rw [show 0 + q * ti3.size = q by show 0 + q * 1 = q; omega, zs_set] at hw3
          have hp3 := hp2.set 0 rfl rfl hw3
          repeat (first | refine WC.seq ?_ | refine WC.reg ?_ | refine WL.pure rfl rfl rfl ?_ | refine WL.nil ?_ | refine WC.skip ?_ | refine WC.block ?_ | refine WC.condT rfl ?_ | refine WC.condF rfl ?_ | refine WL.off rfl rfl rfl ?_ | refine WL.off0 rfl rfl ?_ | refine WC.exit ?_ | refine blk_hit ?_ | refine blk_miss rfl ?_ | refine WC.ret ?_)
          exact ⟨(k + 1, out2.set q (out2[q] + n)), (by show row.length - (k + 1) < row.length - k; omega), ⟨rfl, rfl, rfl, rfl, rfl, rfl, rfl, rfl, congrArg (fun z => some (Value.int .i64 z)) stepk, rfl⟩, by omega, by rw [List.length_set]; exact hol2, hco2.set q (by omega) (by omega), hI, hp3⟩
    · have hk : row.length ≤ k := by have := of_decide_eq_false hc2; omega
      rw [List.drop_of_length_le hk, spI] at hI
      rw [hI] at hS
      repeat (first | refine WC.seq ?_ | refine WC.reg ?_ | refine WL.pure rfl rfl rfl ?_ | refine WL.nil ?_ | refine WC.skip ?_ | refine WC.block ?_ | refine WC.condT rfl ?_ | refine WC.condF rfl ?_ | refine WL.off rfl rfl rfl ?_ | refine WL.off0 rfl rfl ?_ | refine WC.exit ?_ | refine blk_hit ?_ | refine blk_miss rfl ?_ | refine WC.ret ?_)
      exact ⟨(i + 1, out2), (by show now.length - (i + 1) < now.length - i; omega), ⟨rfl, rfl, rfl, rfl, congrArg (fun z => some (Value.int .i64 z)) step, rfl⟩, by omega, hol2, hco2, hS, hp2⟩
  · have hi : now.length ≤ i := by have := of_decide_eq_false hc1; omega
    rw [List.drop_of_length_le hi] at hS
    have hS2 : spM (R.map (·.2)) now = some out := by rw [hS]; rfl
    repeat (first | refine WC.seq ?_ | refine WC.reg ?_ | refine WL.pure rfl rfl rfl ?_ | refine WL.nil ?_ | refine WC.skip ?_ | refine WC.block ?_ | refine WC.condT rfl ?_ | refine WC.condF rfl ?_ | refine WL.off rfl rfl rfl ?_ | refine WL.off0 rfl rfl ?_ | refine WC.exit ?_ | refine blk_hit ?_ | refine blk_miss rfl ?_ | refine WC.ret ?_)
    refine Res.two rfl rfl rfl rfl ?_
    rw [hS2]
    exact ⟨ob, by rw [hol], hp1⟩
end Go.Proofs.YtoghnhbjdnjghaaGreat
