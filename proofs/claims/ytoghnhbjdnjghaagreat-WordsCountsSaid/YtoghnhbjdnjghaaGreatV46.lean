/- The reference's Build. -/
import Derived.Test.YtoghnhbjdnjghaaGreatV45
namespace Go.Words
open Go.W Go.Proofs.YtoghnhbjdnjghaaGreat
theorem sufS_self {P : List Str} {t : Str} (h : t ∈ P) : sufS P t = t := by
  cases t with
  | nil => rfl
  | cons c t => rw [sufS, if_pos h]
theorem sufS_next {P : List Str} {t : Str} (h : t ∉ P) : sufS P (t.drop 1) = sufS P t := by
  cases t with
  | nil => rfl
  | cons c t => rw [sufS, if_neg h]; rfl
theorem trL_app {l : List Rl} {P L Q : List Str} {u : Str} (h : endB l u = false → sufS P u ∈ L) : trL l P (L ++ Q) u = trL l P L u := by
  unfold trL
  cases he : endB l u with
  | true => rfl
  | false =>
    obtain ⟨q, hq, _⟩ := fnd_mem (h he)
    rw [if_neg (by decide), if_neg (by decide), hq, fnd_app hq]
theorem rowL_app {l : List Rl} {P L Q : List Str} {k : Nat} {s : Str} (h : ∀ c, c < k → endB l (s ++ [ltr c]) = false → sufS P (s ++ [ltr c]) ∈ L) : rowL l P k (L ++ Q) s = rowL l P k L s := by
  unfold rowL
  refine List.map_congr_left (fun c hc => ?_)
  exact trL_app (h c (List.mem_range.1 hc))
theorem nodup_le {α : Type} [DecidableEq α] : ∀ (A B : List α), A.Nodup → (∀ a ∈ A, a ∈ B) → A.length ≤ B.length := by
  intro A
  induction A with
  | nil => intro B _ _; exact Nat.zero_le _
  | cons a A ih =>
    intro B hn hs
    obtain ⟨h1, h2⟩ := List.nodup_cons.1 hn
    have ha := hs a (List.mem_cons_self)
    have := ih (B.erase a) h2 (fun x hx => (List.mem_erase_of_ne (fun h => h1 (by rw [← h]; exact hx))).2 (hs x (List.mem_cons_of_mem _ hx)))
    have hl := List.length_erase_of_mem ha
    have hp := List.length_pos_of_mem ha
    rw [List.length_cons]; omega
theorem fnd_snoc : ∀ (A : List Str) (v : Str) (i : Nat), v ∉ A → fnd (A ++ [v]) v i = some (i + A.length) := by
  intro A
  induction A with
  | nil => intro v i _; rw [List.nil_append, fnd, if_pos rfl]; rfl
  | cons p A ih =>
    intro v i h
    rw [List.cons_append, fnd, if_neg (fun h2 => h (by rw [h2]; exact List.mem_cons_self)), ih v (i + 1) (fun h2 => h (List.mem_cons_of_mem _ h2)), List.length_cons]
    congr 1; omega
abbrev Rq := List (Nat × Nat × Array Value × List Int)
def rvQ (R : Rq) : List Value := R.map fun x => .slice (some ⟨x.1, 0, none⟩) x.2.2.2.length x.2.1
def Gq (R : Rq) : Prop := ∀ x ∈ R, x.2.2.1.toList.take x.2.2.2.length = zs x.2.2.2
theorem rvQ_cells (R : Rq) : Cells (rvQ R) := by
  intro v hv
  obtain ⟨x, _, rfl⟩ := List.mem_map.1 hv
  rfl
/-- What the breadth-first search has so far. -/
structure Bfs (l : List Rl) (P : List Str) (k : Nat) (L : List Str) (R : Rq) (q : Nat) : Prop where
  nodup : L.Nodup
  head : L[0]? = some []
  sub : ∀ p ∈ L, p ∈ P
  len : R.length = q
  le : q ≤ L.length
  rows : R.map (·.2.2.2) = (L.take q).map (rowL l P k L)
  clos : ∀ s ∈ L.take q, ∀ c, c < k → endB l (s ++ [ltr c]) = false → sufS P (s ++ [ltr c]) ∈ L
  good : Gq R
theorem Bfs.mch {l : List Rl} {k : Nat} {L : List Str} {R : Rq} (hd : Dc l) (h : Bfs l (prefM l) k L R L.length) : Mch l (prefM l) k L (R.map (·.2.2.2)) := by
  have h1 := h.rows
  have h2 := h.clos
  rw [List.take_length] at h1 h2
  exact ⟨prefM_pf l, fun r hr => hd.ne hr, h.nodup, h.head, h1, h2⟩
theorem Bfs.next {l : List Rl} {P : List Str} {k : Nat} {L0 Q : List Str} {R : Rq} {q : Nat} {x : Nat × Nat × Array Value × List Int} (h : Bfs l P k L0 R q) (hq : q < L0.length) (hn : (L0 ++ Q).Nodup) (hs : ∀ p ∈ L0 ++ Q, p ∈ P)
    (hc : ∀ c, c < k → endB l (L0[q] ++ [ltr c]) = false → sufS P (L0[q] ++ [ltr c]) ∈ L0 ++ Q) (hx : x.2.2.2 = rowL l P k (L0 ++ Q) L0[q]) (hg : x.2.2.1.toList.take x.2.2.2.length = zs x.2.2.2) : Bfs l P k (L0 ++ Q) (R ++ [x]) (q + 1) := by
  have ht : (L0 ++ Q).take (q + 1) = L0.take q ++ [L0[q]] := by
    rw [List.take_append_of_le_length (by omega), List.take_succ_eq_append_getElem hq]
  refine ⟨hn, ?_, hs, by rw [List.length_append, h.len]; rfl, by rw [List.length_append]; omega, ?_, ?_, ?_⟩
  · rw [List.getElem?_append_left (by omega)]; exact h.head
  · rw [ht, List.map_append, List.map_append, h.rows]
    congr 1
    · refine List.map_congr_left (fun s hs' => ?_)
      exact (rowL_app (h.clos s hs')).symm
    · show [x.2.2.2] = [_]
      rw [hx]
  · rw [ht]
    intro s hs' c hc' he
    rcases List.mem_append.1 hs' with h1 | h1
    · exact List.mem_append_left _ (h.clos s h1 c hc' he)
    · obtain rfl := List.mem_singleton.1 h1
      exact hc c hc' he
  · intro y hy
    rcases List.mem_append.1 hy with h1 | h1
    · exact h.good y h1
    · obtain rfl := List.mem_singleton.1 h1
      exact hg
end Go.Words
namespace Go.Proofs.YtoghnhbjdnjghaaGreat
open Go.W Go.Words Go.RowKit
set_option maxRecDepth 100000
attribute [local irreducible] WC WL WQ WS WH

def rbQ (x : Nat × Nat × Array Value × List Int) : Nat × Obj := (x.1, .cells x.2.2.1 3 (0, 0))
abbrev Mq (R : Rq) : Ent := .many (R.reverse.map rbQ)
abbrev Rk (v : Value) (R : Rq) : Ent := .row 61 1 v R.length (rvQ R)
abbrev Xm (b : Nat) (v1 v2 : Value) : Ent := .blk b (.cells #[v1, v2] 89 (0, 0))
/-- The table in memory: what can be read. -/
structure Mem (w : World) (ta : Option Addr) (R : Rq) : Prop where
  top : Sl w ta (rvQ R)
  rows : ∀ x ∈ R, Sl w (some ⟨x.1, 0, none⟩) (zs x.2.2.2)
theorem Mem.hp {w w' : World} {ta : Option Addr} {R : Rq} {L : List Ent} (h : Mem w ta R) (hp : Hp w w' L) : Mem w' ta R := ⟨h.top.hp hp, fun x hx => (h.rows x hx).hp hp⟩
/-- What Build hands back. -/
def BldP (l : List Rl) (k : Nat) (w : World) (u : Value) (w' : World) : Prop := ∃ sa sc ta tc L R, u = .agg #[.slice sa (List.length L) sc, .slice ta (List.length R) tc] ∧ R.length = L.length ∧ Mch l (prefM l) k L (R.map (·.2.2.2)) ∧ Mem w' ta R ∧ L.length ≤ (prefM l).length ∧ Hp w w' []

set_option maxHeartbeats 4000000 in
theorem rBuild_any (a : Option Addr) (cap : Nat) (l : List Rl) (n : Nat) (hn1 : 1 ≤ n) (hn : n ≤ 8) (hl : l.length ≤ 64) (hm : Sm 24 l) (hd : Dc l) (w : World) (hs : Sl w a (rcs l)) :
    Ret Tryz.prog 57 [.slice a l.length cap, .int .i64 (n : Nat)] w (BldP l n w) := by
  refine enter Tryz.func57 rfl rfl ⟨rfl, rfl⟩ rfl ?_
  repeat (first | refine WC.seq ?_ | refine WC.reg ?_ | refine WL.pure rfl rfl rfl ?_ | refine WL.nil ?_ | refine WC.skip ?_ | refine WC.block ?_ | refine WC.condT rfl ?_ | refine WC.condF rfl ?_ | refine WL.off rfl rfl rfl ?_ | refine WL.off0 rfl rfl ?_ | refine WC.exit ?_ | refine blk_hit ?_ | refine blk_miss rfl ?_ | refine WC.ret ?_)
  refine WL.alloc rfl rfl rfl ?_
  intro b4 w1 hb4
  have hp1 : Hp w w1 [Xm b4 (.slice none 0 0) (.slice none 0 0)] := (Hp.start w).new hb4
  repeat (first | refine WC.seq ?_ | refine WC.reg ?_ | refine WL.pure rfl rfl rfl ?_ | refine WL.nil ?_ | refine WC.skip ?_ | refine WC.block ?_ | refine WC.condT rfl ?_ | refine WC.condF rfl ?_ | refine WL.off rfl rfl rfl ?_ | refine WL.off0 rfl rfl ?_ | refine WC.exit ?_ | refine blk_hit ?_ | refine blk_miss rfl ?_ | refine WC.ret ?_)
  refine WL.buildS (cs := [st []]) rfl rfl rfl rfl rfl rfl rfl rfl rfl ?_
  intro pb w2 hpb
  have hp2 : Hp w w2 [Rs (.slice (some ⟨pb, 0, none⟩) 1 1) [[]], Xm b4 (.slice none 0 0) (.slice none 0 0)] := (hp1.new hpb).toRow (m := 1) (s := 1) rfl (by decide)
  clear hp1 hpb hb4
  repeat (first | refine WC.seq ?_ | refine WC.reg ?_ | refine WL.pure rfl rfl rfl ?_ | refine WL.nil ?_ | refine WC.skip ?_ | refine WC.block ?_ | refine WC.condT rfl ?_ | refine WC.condF rfl ?_ | refine WL.off rfl rfl rfl ?_ | refine WL.off0 rfl rfl ?_ | refine WC.exit ?_ | refine blk_hit ?_ | refine blk_miss rfl ?_ | refine WC.ret ?_)
  refine WC.loop (Nat × Option Addr × Nat × List Str) (fun (i, va, vc, P) => [(0, .slice a l.length cap), (1, .int .i64 (n : Nat)), (4, .pointer (some ⟨b4, 0, none⟩)), (5, .slice va P.length vc), (6, .int .i64 (i : Nat))])
    (fun (i, va, vc, P) w' => i ≤ l.length ∧ P = (l.take i).foldl (fun P r => preR P r.1) [[]] ∧ Pfx (1 + i * 24) P ∧ Hp w w' [Rs (.slice va P.length vc) P, Xm b4 (.slice none 0 0) (.slice none 0 0)]) (fun (i, _) => l.length - i) (0, some ⟨pb, 0, none⟩, 1, [[]]) ⟨rfl, rfl, rfl, rfl, rfl, rfl⟩
    ⟨Nat.zero_le _, rfl, ⟨rfl, fun p hp => by rw [List.mem_singleton.1 hp]; exact Nat.zero_le _, Nat.le_refl _⟩, hp2⟩ ?_
  clear hp2
  rintro ⟨i, va, vc, P⟩ w1 ⟨hi, hP, hX, hp1⟩
  repeat (first | refine WC.seq ?_ | refine WC.reg ?_ | refine WL.pure rfl rfl rfl ?_ | refine WL.nil ?_ | refine WC.skip ?_ | refine WC.block ?_ | refine WC.condT rfl ?_ | refine WC.condF rfl ?_ | refine WL.off rfl rfl rfl ?_ | refine WL.off0 rfl rfl ?_ | refine WC.exit ?_ | refine blk_hit ?_ | refine blk_miss rfl ?_ | refine WC.ret ?_)
  refine WC.cond rfl (fun hc => ?_) (fun hc => ?_)
  · have hi : i < l.length := by have := of_decide_eq_true hc; omega
    have step := wrap_succ hi (by omega)
    have hsucc := foldl_take_succ (fun P r => preR P r.1) [[]] hi
    have hsz := hm.at_ hi
    rw [← hP] at hsucc
    obtain ⟨b, o, rfl⟩ := rcs_some hs (by omega)
    have hcell : ∀ w' X, Hp w w' X → w'.cell? ⟨b, o + i * 2 + 0, none⟩ = some (st l[i].1) := fun w' X h => rcs_cell (hs.hp h) hi (q := 0) rfl
    generalize l[i] = r at *
    repeat (first | refine WC.seq ?_ | refine WC.reg ?_ | refine WL.pure rfl rfl rfl ?_ | refine WL.nil ?_ | refine WC.skip ?_ | refine WC.block ?_ | refine WC.condT rfl ?_ | refine WC.condF rfl ?_ | refine WL.off rfl rfl rfl ?_ | refine WL.off0 rfl rfl ?_ | refine WC.exit ?_ | refine blk_hit ?_ | refine blk_miss rfl ?_ | refine WC.ret ?_)
    refine WC.loop (Nat × Option Addr × Nat × List Str) (fun (j, va, vc, P) => [(0, .slice (some ⟨b, o, none⟩) l.length cap), (1, .int .i64 (n : Nat)), (4, .pointer (some ⟨b4, 0, none⟩)), (5, .slice va P.length vc), (6, .int .i64 (i : Nat)), (7, .int .i64 (j + 1 : Nat))])
      (fun (j, va, vc, P2) w' => j ≤ r.1.length - 1 ∧ P2 = (List.range j).foldl (fun P k => addP P (r.1.take (k + 1))) P ∧ Pfx (1 + i * 24 + j) P2 ∧ Hp w w' [Rs (.slice va P2.length vc) P2, Xm b4 (.slice none 0 0) (.slice none 0 0)]) (fun (j, _) => r.1.length - j) (0, va, vc, P) ⟨rfl, rfl, rfl, rfl, rfl, rfl, rfl⟩
      ⟨Nat.zero_le _, rfl, hX, hp1⟩ ?_
    clear hp1
    rintro ⟨j, va, vc, P2⟩ w2 ⟨hj, hP2, hX2, hp2⟩
    have hPl := hX2.len
    repeat (first | refine WC.seq ?_ | refine WC.reg ?_ | refine WL.pure rfl rfl rfl ?_ | refine WL.nil ?_ | refine WC.skip ?_ | refine WC.block ?_ | refine WC.condT rfl ?_ | refine WC.condF rfl ?_ | refine WL.off rfl rfl rfl ?_ | refine WL.off0 rfl rfl ?_ | refine WC.exit ?_ | refine blk_hit ?_ | refine blk_miss rfl ?_ | refine WC.ret ?_)
    refine WL.ix rfl rfl rfl rfl rfl (j := i) hi rfl ?_
    repeat (first | refine WC.seq ?_ | refine WC.reg ?_ | refine WL.pure rfl rfl rfl ?_ | refine WL.nil ?_ | refine WC.skip ?_ | refine WC.block ?_ | refine WC.condT rfl ?_ | refine WC.condF rfl ?_ | refine WL.off rfl rfl rfl ?_ | refine WL.off0 rfl rfl ?_ | refine WC.exit ?_ | refine blk_hit ?_ | refine blk_miss rfl ?_ | refine WC.ret ?_)
    refine WL.load rfl rfl rfl rfl rfl (hcell _ _ hp2) ?_
    repeat (first | refine WC.seq ?_ | refine WC.reg ?_ | refine WL.pure rfl rfl rfl ?_ | refine WL.nil ?_ | refine WC.skip ?_ | refine WC.block ?_ | refine WC.condT rfl ?_ | refine WC.condF rfl ?_ | refine WL.off rfl rfl rfl ?_ | refine WL.off0 rfl rfl ?_ | refine WC.exit ?_ | refine blk_hit ?_ | refine blk_miss rfl ?_ | refine WC.ret ?_)
    refine WC.cond rfl (fun hc2 => ?_) (fun hc2 => ?_)
    · have hj : j + 1 < r.1.length := by have := of_decide_eq_true hc2; rw [sb_size] at this; omega
      have stepj : IntKind.i64.wrap (((j + 1 : Nat) : Int) + 1) = ((j + 1 + 1 : Nat) : Int) := wrap_succ hj (by omega)
      have hsj := foldl_range_succ (fun P k => addP P (r.1.take (k + 1))) P j
      rw [← hP2] at hsj
      have e1 : (r.1.drop 0).take (j + 1 - 0) = r.1.take (j + 1) := rfl
      have hXa := hX2.add (p := r.1.take (j + 1)) (by rw [List.length_take]; omega)
      repeat (first | refine WC.seq ?_ | refine WC.reg ?_ | refine WL.pure rfl rfl rfl ?_ | refine WL.nil ?_ | refine WC.skip ?_ | refine WC.block ?_ | refine WC.condT rfl ?_ | refine WC.condF rfl ?_ | refine WL.off rfl rfl rfl ?_ | refine WL.off0 rfl rfl ?_ | refine WC.exit ?_ | refine blk_hit ?_ | refine blk_miss rfl ?_ | refine WC.ret ?_)
      refine WL.ix rfl rfl rfl rfl rfl (j := i) hi rfl ?_
      repeat (first | refine WC.seq ?_ | refine WC.reg ?_ | refine WL.pure rfl rfl rfl ?_ | refine WL.nil ?_ | refine WC.skip ?_ | refine WC.block ?_ | refine WC.condT rfl ?_ | refine WC.condF rfl ?_ | refine WL.off rfl rfl rfl ?_ | refine WL.off0 rfl rfl ?_ | refine WC.exit ?_ | refine blk_hit ?_ | refine blk_miss rfl ?_ | refine WC.ret ?_)
      refine WL.load rfl rfl rfl rfl rfl (hcell _ _ hp2) ?_
      repeat (first | refine WC.seq ?_ | refine WC.reg ?_ | refine WL.pure rfl rfl rfl ?_ | refine WL.nil ?_ | refine WC.skip ?_ | refine WC.block ?_ | refine WC.condT rfl ?_ | refine WC.condF rfl ?_ | refine WL.off rfl rfl rfl ?_ | refine WL.off0 rfl rfl ?_ | refine WC.exit ?_ | refine blk_hit ?_ | refine blk_miss rfl ?_ | refine WC.ret ?_)
      refine WL.sSl (a := 0) (b := j + 1) rfl rfl rfl rfl rfl rfl (Nat.zero_le _) (by omega) ?_
      rw [e1]
      refine WL.callP rfl rfl rfl rfl rfl ent82 (find_any va vc P2 (r.1.take (j + 1)) (by omega) w2 (Sl.of_row (hp2.at 0 rfl))) ?_
      unfold fndZ
      cases hf : fnd P2 (r.1.take (j + 1)) 0 with
      | some q =>
        have hadd : addP P2 (r.1.take (j + 1)) = P2 := by unfold addP; rw [hf]; rfl
        rw [hadd] at hsj hXa
        repeat (first | refine WC.seq ?_ | refine WC.reg ?_ | refine WL.pure rfl rfl rfl ?_ | refine WL.nil ?_ | refine WC.skip ?_ | refine WC.block ?_ | refine WC.condT rfl ?_ | refine WC.condF rfl ?_ | refine WL.off rfl rfl rfl ?_ | refine WL.off0 rfl rfl ?_ | refine WC.exit ?_ | refine blk_hit ?_ | refine blk_miss rfl ?_ | refine WC.ret ?_)
        exact ⟨(j + 1, va, vc, P2), (by show r.1.length - (j + 1) < r.1.length - j; omega), ⟨rfl, rfl, rfl, rfl, rfl, congrArg (fun z => some (Value.int .i64 z)) stepj, rfl⟩, by omega, hsj.symm, hXa, hp2⟩
      | none =>
        have hadd : addP P2 (r.1.take (j + 1)) = P2 ++ [r.1.take (j + 1)] := by unfold addP; rw [hf]; rfl
        rw [hadd] at hsj hXa
        repeat (first | refine WC.seq ?_ | refine WC.reg ?_ | refine WL.pure rfl rfl rfl ?_ | refine WL.nil ?_ | refine WC.skip ?_ | refine WC.block ?_ | refine WC.condT rfl ?_ | refine WC.condF rfl ?_ | refine WL.off rfl rfl rfl ?_ | refine WL.off0 rfl rfl ?_ | refine WC.exit ?_ | refine blk_hit ?_ | refine blk_miss rfl ?_ | refine WC.ret ?_)
        refine WL.ix rfl rfl rfl rfl rfl (j := i) hi rfl ?_
        repeat (first | refine WC.seq ?_ | refine WC.reg ?_ | refine WL.pure rfl rfl rfl ?_ | refine WL.nil ?_ | refine WC.skip ?_ | refine WC.block ?_ | refine WC.condT rfl ?_ | refine WC.condF rfl ?_ | refine WL.off rfl rfl rfl ?_ | refine WL.off0 rfl rfl ?_ | refine WC.exit ?_ | refine blk_hit ?_ | refine blk_miss rfl ?_ | refine WC.ret ?_)
        refine WL.load rfl rfl rfl rfl rfl (hcell _ _ hp2) ?_
        repeat (first | refine WC.seq ?_ | refine WC.reg ?_ | refine WL.pure rfl rfl rfl ?_ | refine WL.nil ?_ | refine WC.skip ?_ | refine WC.block ?_ | refine WC.condT rfl ?_ | refine WC.condF rfl ?_ | refine WL.off rfl rfl rfl ?_ | refine WL.off0 rfl rfl ?_ | refine WC.exit ?_ | refine blk_hit ?_ | refine blk_miss rfl ?_ | refine WC.ret ?_)
        refine WL.sSl (a := 0) (b := j + 1) rfl rfl rfl rfl rfl rfl (Nat.zero_le _) (by omega) ?_
        rw [e1]
        generalize r.1.take (j + 1) = p at *
        refine WL.buildS (cs := [st p]) rfl rfl rfl rfl rfl rfl rfl rfl rfl ?_
        intro b6 w4 hb6
        have hp4 := hp2.new hb6
        refine WL.append 1 hp4 rfl rfl rfl rfl rfl (by decide) rfl rfl rfl (news := [st p]) (Sl.of_obj (hp4.obj 0 rfl) (fun q u hq => by simpa using hq)) rfl (st_cells [p]) (by unfold maxLen; omega) (by show (P2.length + 1) * 16 ≤ _; omega) ?_
        intro ra rc1 w5 hp5 hg5
        have e2 : (P2 ++ [p]).length = P2.length + 1 := by rw [List.length_append]; rfl
        repeat (first | refine WC.seq ?_ | refine WC.reg ?_ | refine WL.pure rfl rfl rfl ?_ | refine WL.nil ?_ | refine WC.skip ?_ | refine WC.block ?_ | refine WC.condT rfl ?_ | refine WC.condF rfl ?_ | refine WL.off rfl rfl rfl ?_ | refine WL.off0 rfl rfl ?_ | refine WC.exit ?_ | refine blk_hit ?_ | refine blk_miss rfl ?_ | refine WC.ret ?_)
        refine ⟨(j + 1, ra, rc1, P2 ++ [p]), (by show r.1.length - (j + 1) < r.1.length - j; omega), ⟨rfl, rfl, rfl, congrArg (fun z : Nat => some (Value.slice ra z rc1)) e2.symm, rfl, congrArg (fun z => some (Value.int .i64 z)) stepj, rfl⟩, by omega, hsj.symm, hXa, ?_⟩
        show Hp w w5 [Rs _ _, _]
        unfold Rs
        rw [e2, List.map_append]
        exact hp5.tail
    · have hje : j = r.1.length - 1 := by have := of_decide_eq_false hc2; rw [sb_size] at this; omega
      have hpr : P2 = preR P r.1 := by rw [hP2, hje]; rfl
      repeat (first | refine WC.seq ?_ | refine WC.reg ?_ | refine WL.pure rfl rfl rfl ?_ | refine WL.nil ?_ | refine WC.skip ?_ | refine WC.block ?_ | refine WC.condT rfl ?_ | refine WC.condF rfl ?_ | refine WL.off rfl rfl rfl ?_ | refine WL.off0 rfl rfl ?_ | refine WC.exit ?_ | refine blk_hit ?_ | refine blk_miss rfl ?_ | refine WC.ret ?_)
      exact ⟨(i + 1, va, vc, P2), (by show l.length - (i + 1) < l.length - i; omega), ⟨rfl, rfl, rfl, rfl, congrArg (fun z => some (Value.int .i64 z)) step, rfl⟩, by omega, by rw [hsucc, hpr], ⟨hX2.head, hX2.small, by omega⟩, hp2⟩
  have hi : l.length ≤ i := by have := of_decide_eq_false hc; omega
  have hPf : P = prefM l := by rw [hP, List.take_of_length_le hi]; rfl
  have hPl := hX.len
  have hsmall := hX.small
  have hPm : ∀ u, sufS P u ∈ P := fun u => by rw [hPf]; exact sufS_mem (prefM_pf l).nil u
  clear hP hc
  repeat (first | refine WC.seq ?_ | refine WC.reg ?_ | refine WL.pure rfl rfl rfl ?_ | refine WL.nil ?_ | refine WC.skip ?_ | refine WC.block ?_ | refine WC.condT rfl ?_ | refine WC.condF rfl ?_ | refine WL.off rfl rfl rfl ?_ | refine WL.off0 rfl rfl ?_ | refine WC.exit ?_ | refine blk_hit ?_ | refine blk_miss rfl ?_ | refine WC.ret ?_)
  refine WL.buildS (cs := [st []]) rfl rfl rfl rfl rfl rfl rfl rfl rfl ?_
  intro sb0 w2 hsb
  have hp2 : Hp w w2 [Rs (.slice (some ⟨sb0, 0, none⟩) 1 1) [[]], Rs (.slice va P.length vc) P, Xm b4 (.slice none 0 0) (.slice none 0 0)] := (hp1.new hsb).toRow (m := 1) (s := 1) rfl (by decide)
  refine WL.buildT (cs := [.slice (some ⟨sb0, 0, none⟩) 1 1, .slice none 0 0]) rfl rfl rfl rfl rfl rfl ?_
  refine WL.alloc rfl rfl rfl ?_
  intro b8 w3 hb8
  have hp3 := hp2.new hb8
  refine WL.storeN (vs := #[.slice (some ⟨sb0, 0, none⟩) 1 1, .slice none 0 0]) (arr2 := #[.slice (some ⟨sb0, 0, none⟩) 1 1, .slice none 0 0]) rfl rfl rfl rfl rfl (by intro v hv; simp only [List.mem_cons, List.not_mem_nil, or_false] at hv; rcases hv with rfl | rfl <;> rfl) (hp3.obj 0 rfl) (Nat.le_refl 2) rfl (fun w4 hw4 => ?_)
  have hp4 := hp3.set 0 rfl rfl hw4
  have hp4 : Hp w w4 [Xm b8 (.slice (some ⟨sb0, 0, none⟩) 1 1) (.slice none 0 0), Rs (.slice (some ⟨sb0, 0, none⟩) 1 1) [[]], Rs (.slice va P.length vc) P, Xm b4 (.slice none 0 0) (.slice none 0 0)] := hp4
  have hp5 : Hp w w4 [Xm b8 (.slice (some ⟨sb0, 0, none⟩) 1 1) (.slice none 0 0), Rs (.slice (some ⟨sb0, 0, none⟩) 1 1) [[]], Rk (.slice none 0 0) [], Mq [], Rs (.slice va P.length vc) P, Xm b4 (.slice none 0 0) (.slice none 0 0)] := ((hp4.nilrow 61 1).none').pick [2, 3, 1, 0, 4, 5] (by decide)
  have hB0 : Bfs l P n [[]] [] 0 := ⟨List.pairwise_singleton _ _, rfl, fun p hp => by rw [List.mem_singleton.1 hp, hPf]; exact (prefM_pf l).nil, rfl, Nat.zero_le _, rfl, (fun s hs => by cases hs), (fun x hx => by cases hx)⟩
  clear hp4 hp3 hp2 hp1 hw4 hb8 hsb
  repeat (first | refine WC.seq ?_ | refine WC.reg ?_ | refine WL.pure rfl rfl rfl ?_ | refine WL.nil ?_ | refine WC.skip ?_ | refine WC.block ?_ | refine WC.condT rfl ?_ | refine WC.condF rfl ?_ | refine WL.off rfl rfl rfl ?_ | refine WL.off0 rfl rfl ?_ | refine WC.exit ?_ | refine blk_hit ?_ | refine blk_miss rfl ?_ | refine WC.ret ?_)
  refine WC.loop (Nat × Option Addr × Nat × List Str × Option Addr × Nat × Rq) (fun (q, _) => [(0, .slice a l.length cap), (1, .int .i64 (n : Nat)), (4, .pointer (some ⟨b4, 0, none⟩)), (5, .slice va P.length vc), (8, .pointer (some ⟨b8, 0, none⟩)), (9, .int .i64 (q : Nat))])
    (fun (q, sa, sc, L, ta, tc, R) w' => Bfs l P n L R q ∧ Hp w w' [Xm b8 (.slice sa L.length sc) (.slice ta R.length tc), Rs (.slice sa L.length sc) L, Rk (.slice ta R.length tc) R, Mq R, Rs (.slice va P.length vc) P, Xm b4 (.slice none 0 0) (.slice none 0 0)])
    (fun (q, _) => P.length - q) (0, some ⟨sb0, 0, none⟩, 1, [[]], none, 0, []) ⟨rfl, rfl, rfl, rfl, rfl, rfl, rfl⟩ ⟨hB0, hp5⟩ ?_
  clear hp5 hB0
  rintro ⟨q, sa, sc, L, ta, tc, R⟩ w2 ⟨hB, hp2⟩
  have hLP := nodup_le L P hB.nodup hB.sub
  repeat (first | refine WC.seq ?_ | refine WC.reg ?_ | refine WL.pure rfl rfl rfl ?_ | refine WL.nil ?_ | refine WC.skip ?_ | refine WC.block ?_ | refine WC.condT rfl ?_ | refine WC.condF rfl ?_ | refine WL.off rfl rfl rfl ?_ | refine WL.off0 rfl rfl ?_ | refine WC.exit ?_ | refine blk_hit ?_ | refine blk_miss rfl ?_ | refine WC.ret ?_)
  refine WL.loadB rfl rfl rfl rfl rfl (hp2.obj 0 rfl) (j := 0) rfl ?_
  repeat (first | refine WC.seq ?_ | refine WC.reg ?_ | refine WL.pure rfl rfl rfl ?_ | refine WL.nil ?_ | refine WC.skip ?_ | refine WC.block ?_ | refine WC.condT rfl ?_ | refine WC.condF rfl ?_ | refine WL.off rfl rfl rfl ?_ | refine WL.off0 rfl rfl ?_ | refine WC.exit ?_ | refine blk_hit ?_ | refine blk_miss rfl ?_ | refine WC.ret ?_)
  refine WC.cond rfl (fun hc1 => ?_) (fun hc1 => ?_)
  · have hq : q < L.length := by have := of_decide_eq_true hc1; omega
    have stepq := wrap_succ hq (by omega)
    have hsl : L[q].length ≤ 1000 := hsmall _ (hB.sub _ (List.getElem_mem hq))
    have hsP : L[q] ∈ P := hB.sub _ (List.getElem_mem hq)
    repeat (first | refine WC.seq ?_ | refine WC.reg ?_ | refine WL.pure rfl rfl rfl ?_ | refine WL.nil ?_ | refine WC.skip ?_ | refine WC.block ?_ | refine WC.condT rfl ?_ | refine WC.condF rfl ?_ | refine WL.off rfl rfl rfl ?_ | refine WL.off0 rfl rfl ?_ | refine WC.exit ?_ | refine blk_hit ?_ | refine blk_miss rfl ?_ | refine WC.ret ?_)
    refine WC.loop (Nat × Option Addr × Nat × List Str × Option Addr × Nat × List Int) (fun (c, _, _, _, ra, rc1, row) => [(0, .slice a l.length cap), (1, .int .i64 (n : Nat)), (4, .pointer (some ⟨b4, 0, none⟩)), (5, .slice va P.length vc), (8, .pointer (some ⟨b8, 0, none⟩)), (9, .int .i64 (q : Nat)), (10, .slice ra row.length rc1), (11, .int .i64 (c : Nat))])
      (fun (c, sa, sc, Q, ra, rc1, row) w' => c ≤ n ∧ (L ++ Q).Nodup ∧ (∀ p ∈ L ++ Q, p ∈ P) ∧ row.length = c ∧ row = (List.range c).map (fun c => trL l P (L ++ Q) (L[q] ++ [ltr c])) ∧ (∀ c', c' < c → endB l (L[q] ++ [ltr c']) = false → sufS P (L[q] ++ [ltr c']) ∈ L ++ Q) ∧
        Hp w w' [Ri (.slice ra row.length rc1) row, Xm b8 (.slice sa (L ++ Q).length sc) (.slice ta R.length tc), Rs (.slice sa (L ++ Q).length sc) (L ++ Q), Rk (.slice ta R.length tc) R, Mq R, Rs (.slice va P.length vc) P, Xm b4 (.slice none 0 0) (.slice none 0 0)])
      (fun (c, _) => n - c) (0, sa, sc, [], none, 0, []) ⟨rfl, rfl, rfl, rfl, rfl, rfl, rfl, rfl, rfl⟩ ⟨Nat.zero_le _, by rw [List.append_nil]; exact hB.nodup, by rw [List.append_nil]; exact hB.sub, rfl, rfl, fun c' h => absurd h (Nat.not_lt_zero c'), by rw [List.append_nil]; exact hp2.nilrow _ _⟩ ?_
    clear hp2
    rintro ⟨c, sa, sc, Q, ra, rc1, row⟩ w3 ⟨hc, hn0, hs0, hrl, hrow, hcl, hp3⟩
    have hLn := nodup_le (L ++ Q) P hn0 hs0
    repeat (first | refine WC.seq ?_ | refine WC.reg ?_ | refine WL.pure rfl rfl rfl ?_ | refine WL.nil ?_ | refine WC.skip ?_ | refine WC.block ?_ | refine WC.condT rfl ?_ | refine WC.condF rfl ?_ | refine WL.off rfl rfl rfl ?_ | refine WL.off0 rfl rfl ?_ | refine WC.exit ?_ | refine blk_hit ?_ | refine blk_miss rfl ?_ | refine WC.ret ?_)
    refine WC.cond rfl (fun hc2 => ?_) (fun hc2 => ?_)
    · have hc : c < n := by have := of_decide_eq_true hc2; omega
      have stepc := wrap_succ hc (by omega)
      have hqL : q < (L ++ Q).length := by rw [List.length_append]; omega
      have hgq : (L ++ Q)[q] = L[q] := List.getElem_append_left hq
      have hb8 := byte_val (c := c) (by omega)
      obtain ⟨sb, so, rfl⟩ : ∃ sb so, sa = some ⟨sb, so, none⟩ := by
        obtain ⟨b, o, hva, _⟩ := (Sl.of_row (hp3.at 2 rfl) : Sl w3 sa ((L ++ Q).map st)) q _ (by rw [List.getElem?_map, List.getElem?_eq_getElem hqL]; rfl)
        exact ⟨b, o, hva⟩
      have hT : ∀ (w' : World) (X : Ent), Hp w w' [X, Xm b8 (.slice (some ⟨sb, so, none⟩) (L ++ Q).length sc) (.slice ta R.length tc), Rs (.slice (some ⟨sb, so, none⟩) (L ++ Q).length sc) (L ++ Q), Rk (.slice ta R.length tc) R, Mq R, Rs (.slice va P.length vc) P, Xm b4 (.slice none 0 0) (.slice none 0 0)] →
          w'.cell? ⟨b8, 0, none⟩ = some (.slice (some ⟨sb, so, none⟩) (L ++ Q).length sc) ∧ w'.cell? ⟨sb, so + q * 1, none⟩ = some (st L[q]) := fun w' X h => by
        refine ⟨cell_of_obj (h.obj 1 rfl) rfl, ?_⟩
        obtain ⟨b', o', he', hcell⟩ := (Sl.of_row (h.at 2 rfl) : Sl w' (some ⟨sb, so, none⟩) ((L ++ Q).map st)) q (st L[q]) (by rw [List.getElem?_map, List.getElem?_eq_getElem hqL, hgq]; rfl)
        simp only [Option.some.injEq, Addr.mk.injEq] at he'
        obtain ⟨rfl, rfl, _⟩ := he'
        rw [Nat.mul_one]; exact hcell
      generalize hsq : L[q] = s at *
      repeat (first | refine WC.seq ?_ | refine WC.reg ?_ | refine WL.pure rfl rfl rfl ?_ | refine WL.nil ?_ | refine WC.skip ?_ | refine WC.block ?_ | refine WC.condT rfl ?_ | refine WC.condF rfl ?_ | refine WL.off rfl rfl rfl ?_ | refine WL.off0 rfl rfl ?_ | refine WC.exit ?_ | refine blk_hit ?_ | refine blk_miss rfl ?_ | refine WC.ret ?_)
      refine WC.mid Unit (fun _ => [(0, .slice a l.length cap), (1, .int .i64 (n : Nat)), (4, .pointer (some ⟨b4, 0, none⟩)), (5, .slice va P.length vc), (8, .pointer (some ⟨b8, 0, none⟩)), (9, .int .i64 (q : Nat)), (10, .slice ra row.length rc1), (11, .int .i64 (c : Nat)), (12, st (s ++ [ltr c]))])
        (fun _ w' => Hp w w' [Ri (.slice ra row.length rc1) row, Xm b8 (.slice (some ⟨sb, so, none⟩) (L ++ Q).length sc) (.slice ta R.length tc), Rs (.slice (some ⟨sb, so, none⟩) (L ++ Q).length sc) (L ++ Q), Rk (.slice ta R.length tc) R, Mq R, Rs (.slice va P.length vc) P, Xm b4 (.slice none 0 0) (.slice none 0 0)]) ?_ ?_
      · refine WC.regH (fun w' => w'.cell? ⟨b8, 0, none⟩ = some (.slice (some ⟨sb, so, none⟩) (L ++ Q).length sc) ∧ w'.cell? ⟨sb, so + q * 1, none⟩ = some (st s)) mixed (by kernel_rfl) (fun w3' hw3 hh3 => ?_)
        have hp10 := hp3.keep hw3
        have hS := hT _ _ hp10
        refine WH.pure 0 (by kernel_rfl) rfl (by kernel_rfl) rfl rfl rfl (hS) ?_
        refine WH.load 1 (by kernel_rfl) rfl (by kernel_rfl) rfl rfl rfl rfl rfl (fun w' h => h.1) hS ?_
        refine WH.pure 2 (by kernel_rfl) rfl (by kernel_rfl) rfl rfl rfl (hS) ?_
        refine WH.ixS 3 (by kernel_rfl) rfl (by kernel_rfl) rfl rfl rfl rfl rfl rfl hqL hS ?_
        refine WH.load 4 (by kernel_rfl) rfl (by kernel_rfl) rfl rfl rfl rfl rfl (fun w' h => h.2) hS ?_
        refine WH.pure 5 (by kernel_rfl) rfl (by kernel_rfl) rfl rfl rfl (hS) ?_
        refine WH.pure 6 (by kernel_rfl) rfl (by kernel_rfl) rfl rfl rfl (hS) ?_
        refine WH.pure 7 (by kernel_rfl) rfl (by kernel_rfl) rfl rfl rfl (hS) ?_
        refine WH.known (d := 74) (congrArg (fun z => some (Value.int .u8 z)) hb8) ?_
        generalize hu : UInt8.ofNat (97 + c) = ub
        rw [show ltr c = ub from hu] at *
        refine WH.one 8 rfl (by kernel_rfl) ?_
        refine WL.buildS (cs := [.int .u8 (ub.toNat : Nat)]) rfl rfl rfl rfl rfl rfl rfl rfl rfl ?_
        intro b81 w11 hb81
        have hp11 := hp10.new hb81
        have hS11 := hT _ _ hp11.tail
        refine WL.nil ⟨hS11, ?_⟩
        refine WH.one 9 rfl (by kernel_rfl) ?_
        refine WL.convB (u := ub) rfl rfl rfl rfl rfl rfl rfl (cell_of_obj (hp11.obj 0 rfl) rfl) ?_
        refine WL.nil ⟨hS11, ?_⟩
        refine WH.sCat 10 (by kernel_rfl) rfl (by kernel_rfl) rfl rfl rfl rfl (by show s.length + 1 ≤ _; omega) hS11 ?_
        refine WH.pure 11 (by kernel_rfl) rfl (by kernel_rfl) rfl rfl rfl (hS11) ?_
        refine WH.done (by kernel_rfl) ?_
        exact ⟨(), ⟨rfl, rfl, rfl, rfl, rfl, rfl, rfl, rfl, rfl, rfl⟩, hp11.tail⟩
      rintro ⟨⟩ e4 w4 hsub4 hp4
      refine WC.sub hsub4 ?_
      clear hsub4 hp3 hT hb8
      have hul : (s ++ [ltr c]).length ≤ 1001 := by rw [List.length_append]; show s.length + 1 ≤ 1001; omega
      have hrs : ∀ Q' : List Str, (∀ c', c' < c → endB l (s ++ [ltr c']) = false → sufS P (s ++ [ltr c']) ∈ L ++ Q) → row = (List.range c).map (fun c => trL l P ((L ++ Q) ++ Q') (s ++ [ltr c])) := fun Q' hcl => by
        rw [hrow]
        refine List.map_congr_left (fun c' hc' => ?_)
        exact (trL_app (hcl c' (List.mem_range.1 hc'))).symm
      have hrsucc : ∀ M : List Str, (List.range (c + 1)).map (fun c => trL l P M (s ++ [ltr c])) = (List.range c).map (fun c => trL l P M (s ++ [ltr c])) ++ [trL l P M (s ++ [ltr c])] := fun M => by rw [List.range_succ, List.map_append]; rfl
      generalize hue : s ++ [ltr c] = u at *
      repeat (first | refine WC.seq ?_ | refine WC.reg ?_ | refine WL.pure rfl rfl rfl ?_ | refine WL.nil ?_ | refine WC.skip ?_ | refine WC.block ?_ | refine WC.condT rfl ?_ | refine WC.condF rfl ?_ | refine WL.off rfl rfl rfl ?_ | refine WL.off0 rfl rfl ?_ | refine WC.exit ?_ | refine blk_hit ?_ | refine blk_miss rfl ?_ | refine WC.ret ?_)
      refine WL.call rfl rfl rfl rfl rfl ent83 (ends_any a cap l u (by omega) (hm.mono (by decide)) (by omega) w4 (hs.hp hp4)) ?_
      rintro _ w5 ⟨rfl, hp5⟩
      have hp5 := hp4.comb hp5
      have hp5 : Hp w w5 [Ri (.slice ra row.length rc1) row, Xm b8 (.slice (some ⟨sb, so, none⟩) (L ++ Q).length sc) (.slice ta R.length tc), Rs (.slice (some ⟨sb, so, none⟩) (L ++ Q).length sc) (L ++ Q), Rk (.slice ta R.length tc) R, Mq R, Rs (.slice va P.length vc) P, Xm b4 (.slice none 0 0) (.slice none 0 0)] := hp5
      clear hp4
      repeat (first | refine WC.seq ?_ | refine WC.reg ?_ | refine WL.pure rfl rfl rfl ?_ | refine WL.nil ?_ | refine WC.skip ?_ | refine WC.block ?_ | refine WC.condT rfl ?_ | refine WC.condF rfl ?_ | refine WL.off rfl rfl rfl ?_ | refine WL.off0 rfl rfl ?_ | refine WC.exit ?_ | refine blk_hit ?_ | refine blk_miss rfl ?_ | refine WC.ret ?_)
      refine WC.cond rfl (fun he => ?_) (fun he => ?_)
      · have htr : trL l P (L ++ Q) u = -1 := by unfold trL; rw [if_pos he]
        have e1 : (row ++ [-1]).length = row.length + 1 := by rw [List.length_append]; rfl
        repeat (first | refine WC.seq ?_ | refine WC.reg ?_ | refine WL.pure rfl rfl rfl ?_ | refine WL.nil ?_ | refine WC.skip ?_ | refine WC.block ?_ | refine WC.condT rfl ?_ | refine WC.condF rfl ?_ | refine WL.off rfl rfl rfl ?_ | refine WL.off0 rfl rfl ?_ | refine WC.exit ?_ | refine blk_hit ?_ | refine blk_miss rfl ?_ | refine WC.ret ?_)
        refine WL.buildS (cs := zs [-1]) rfl rfl rfl rfl rfl rfl rfl rfl rfl ?_
        intro b6 w6 hb6
        have hp6 := hp5.new hb6
        refine WL.append 1 hp6 rfl rfl rfl rfl rfl (by decide) rfl rfl rfl (news := zs [-1]) (Sl.of_obj (hp6.obj 0 rfl) (fun q u hq => by simpa using hq)) rfl (zs_cells _) (by unfold maxLen; omega) (by show (row.length + 1) * 8 ≤ _; omega) ?_
        intro rb rc2 w7 hp7 hg7
        have hp7 := hp7.tail
        repeat (first | refine WC.seq ?_ | refine WC.reg ?_ | refine WL.pure rfl rfl rfl ?_ | refine WL.nil ?_ | refine WC.skip ?_ | refine WC.block ?_ | refine WC.condT rfl ?_ | refine WC.condF rfl ?_ | refine WL.off rfl rfl rfl ?_ | refine WL.off0 rfl rfl ?_ | refine WC.exit ?_ | refine blk_hit ?_ | refine blk_miss rfl ?_ | refine WC.ret ?_)
        refine ⟨(c + 1, some ⟨sb, so, none⟩, sc, Q, rb, rc2, row ++ [-1]), (by show n - (c + 1) < n - c; omega), ⟨rfl, rfl, rfl, rfl, rfl, rfl, congrArg (fun z : Nat => some (Value.slice rb z rc2)) e1.symm, congrArg (fun z => some (Value.int .i64 z)) stepc, rfl⟩, by omega, hn0, hs0, by omega, ?_, ?_, ?_⟩
        · rw [hrsucc, htr, ← hrow]
        · intro c' hc' he'
          rcases Nat.lt_or_ge c' c with h | h
          · exact hcl c' h he'
          · rw [show c' = c by omega, hue, he] at he'; cases he'
        · show Hp w w7 [Ri _ _, _, _, _, _, _, _]
          unfold Ri
          rw [e1, show zs (row ++ [-1]) = zs row ++ zs [-1] from List.map_append]
          exact hp7
      · have hPn : [] ∈ P := by rw [hPf]; exact (prefM_pf l).nil
        have hvP := hPm u
        repeat (first | refine WC.seq ?_ | refine WC.reg ?_ | refine WL.pure rfl rfl rfl ?_ | refine WL.nil ?_ | refine WC.skip ?_ | refine WC.block ?_ | refine WC.condT rfl ?_ | refine WC.condF rfl ?_ | refine WL.off rfl rfl rfl ?_ | refine WL.off0 rfl rfl ?_ | refine WC.exit ?_ | refine blk_hit ?_ | refine blk_miss rfl ?_ | refine WC.ret ?_)
        refine WC.loop Str (fun t => [(0, .slice a l.length cap), (1, .int .i64 (n : Nat)), (4, .pointer (some ⟨b4, 0, none⟩)), (5, .slice va P.length vc), (8, .pointer (some ⟨b8, 0, none⟩)), (9, .int .i64 (q : Nat)), (10, .slice ra row.length rc1), (11, .int .i64 (c : Nat)), (12, st t)])
          (fun t w' => sufS P t = sufS P u ∧ t.length ≤ 1001 ∧ w' = w5) (fun t => t.length) u ⟨rfl, rfl, rfl, rfl, rfl, rfl, rfl, rfl, rfl, rfl⟩ ⟨rfl, hul, rfl⟩ ?_
        rintro t w6 ⟨htu, htl, hw6⟩
        obtain rfl := hw6.symm
        repeat (first | refine WC.seq ?_ | refine WC.reg ?_ | refine WL.pure rfl rfl rfl ?_ | refine WL.nil ?_ | refine WC.skip ?_ | refine WC.block ?_ | refine WC.condT rfl ?_ | refine WC.condF rfl ?_ | refine WL.off rfl rfl rfl ?_ | refine WL.off0 rfl rfl ?_ | refine WC.exit ?_ | refine blk_hit ?_ | refine blk_miss rfl ?_ | refine WC.ret ?_)
        refine WL.callP rfl rfl rfl rfl rfl ent82 (find_any va vc P t (by omega) w5 (Sl.of_row (hp5.at 5 rfl))) ?_
        unfold fndZ
        cases hf : fnd P t 0 with
        | none =>
          have htP : t ∉ P := (fnd_none P t 0).1 hf
          have ht0 : 0 < t.length := List.length_pos_iff.2 (fun h => htP (by rw [h]; exact hPn))
          have hnx := sufS_next htP
          repeat (first | refine WC.seq ?_ | refine WC.reg ?_ | refine WL.pure rfl rfl rfl ?_ | refine WL.nil ?_ | refine WC.skip ?_ | refine WC.block ?_ | refine WC.condT rfl ?_ | refine WC.condF rfl ?_ | refine WL.off rfl rfl rfl ?_ | refine WL.off0 rfl rfl ?_ | refine WC.exit ?_ | refine blk_hit ?_ | refine blk_miss rfl ?_ | refine WC.ret ?_)
          refine WL.sSl (a := 1) (b := t.length) rfl rfl rfl rfl rfl rfl ht0 (Nat.le_refl _) ?_
          rw [List.take_of_length_le (by rw [List.length_drop]; exact Nat.le_refl _)]
          repeat (first | refine WC.seq ?_ | refine WC.reg ?_ | refine WL.pure rfl rfl rfl ?_ | refine WL.nil ?_ | refine WC.skip ?_ | refine WC.block ?_ | refine WC.condT rfl ?_ | refine WC.condF rfl ?_ | refine WL.off rfl rfl rfl ?_ | refine WL.off0 rfl rfl ?_ | refine WC.exit ?_ | refine blk_hit ?_ | refine blk_miss rfl ?_ | refine WC.ret ?_)
          exact ⟨t.drop 1, (by rw [List.length_drop]; omega), ⟨rfl, rfl, rfl, rfl, rfl, rfl, rfl, rfl, rfl, rfl⟩, by rw [hnx, htu], by rw [List.length_drop]; omega, rfl⟩
        | some qq =>
          have htP : t ∈ P := by
            by_cases h : t ∈ P
            · exact h
            · rw [(fnd_none P t 0).2 h] at hf; cases hf
          rw [sufS_self htP] at htu
          clear hf
          repeat (first | refine WC.seq ?_ | refine WC.reg ?_ | refine WL.pure rfl rfl rfl ?_ | refine WL.nil ?_ | refine WC.skip ?_ | refine WC.block ?_ | refine WC.condT rfl ?_ | refine WC.condF rfl ?_ | refine WL.off rfl rfl rfl ?_ | refine WL.off0 rfl rfl ?_ | refine WC.exit ?_ | refine blk_hit ?_ | refine blk_miss rfl ?_ | refine WC.ret ?_)
          refine WL.loadB rfl rfl rfl rfl rfl (hp5.obj 1 rfl) (j := 0) rfl ?_
          repeat (first | refine WC.seq ?_ | refine WC.reg ?_ | refine WL.pure rfl rfl rfl ?_ | refine WL.nil ?_ | refine WC.skip ?_ | refine WC.block ?_ | refine WC.condT rfl ?_ | refine WC.condF rfl ?_ | refine WL.off rfl rfl rfl ?_ | refine WL.off0 rfl rfl ?_ | refine WC.exit ?_ | refine blk_hit ?_ | refine blk_miss rfl ?_ | refine WC.ret ?_)
          refine WL.callP rfl rfl rfl rfl rfl ent82 (find_any (some ⟨sb, so, none⟩) sc (L ++ Q) t (by omega) w5 (Sl.of_row (hp5.at 2 rfl))) ?_
          unfold fndZ
          cases hf : fnd (L ++ Q) t 0 with
          | some kk =>
            have htm : t ∈ L ++ Q := by
              by_cases h : t ∈ L ++ Q
              · exact h
              · rw [(fnd_none _ t 0).2 h] at hf; cases hf
            have htr : trL l P (L ++ Q) u = (kk : Nat) := by unfold trL; rw [if_neg (by rw [he]; decide), ← htu, hf]; rfl
            have e1 : (row ++ [(kk : Int)]).length = row.length + 1 := by rw [List.length_append]; rfl
            clear hf
            repeat (first | refine WC.seq ?_ | refine WC.reg ?_ | refine WL.pure rfl rfl rfl ?_ | refine WL.nil ?_ | refine WC.skip ?_ | refine WC.block ?_ | refine WC.condT rfl ?_ | refine WC.condF rfl ?_ | refine WL.off rfl rfl rfl ?_ | refine WL.off0 rfl rfl ?_ | refine WC.exit ?_ | refine blk_hit ?_ | refine blk_miss rfl ?_ | refine WC.ret ?_)
            refine WL.buildS (cs := zs [(kk : Nat)]) rfl rfl rfl rfl rfl rfl rfl rfl rfl ?_
            intro b6 w6 hb6
            have hp6 := hp5.new hb6
            refine WL.append 1 hp6 rfl rfl rfl rfl rfl (by decide) rfl rfl rfl (news := zs [(kk : Nat)]) (Sl.of_obj (hp6.obj 0 rfl) (fun q u hq => by simpa using hq)) rfl (zs_cells _) (by unfold maxLen; omega) (by show (row.length + 1) * 8 ≤ _; omega) ?_
            intro rb rc2 w7 hp7 hg7
            have hp7 := hp7.tail
            repeat (first | refine WC.seq ?_ | refine WC.reg ?_ | refine WL.pure rfl rfl rfl ?_ | refine WL.nil ?_ | refine WC.skip ?_ | refine WC.block ?_ | refine WC.condT rfl ?_ | refine WC.condF rfl ?_ | refine WL.off rfl rfl rfl ?_ | refine WL.off0 rfl rfl ?_ | refine WC.exit ?_ | refine blk_hit ?_ | refine blk_miss rfl ?_ | refine WC.ret ?_)
            refine ⟨(c + 1, some ⟨sb, so, none⟩, sc, Q, rb, rc2, row ++ [(kk : Int)]), (by show n - (c + 1) < n - c; omega), ⟨rfl, rfl, rfl, rfl, rfl, rfl, congrArg (fun z : Nat => some (Value.slice rb z rc2)) e1.symm, congrArg (fun z => some (Value.int .i64 z)) stepc, rfl⟩, by omega, hn0, hs0, by omega, ?_, ?_, ?_⟩
            · rw [hrsucc, htr, ← hrow]
            · intro c' hc' he'
              rcases Nat.lt_or_ge c' c with h | h
              · exact hcl c' h he'
              · rw [show c' = c by omega, hue, ← htu]; exact htm
            · show Hp w w7 [Ri _ _, _, _, _, _, _, _]
              unfold Ri
              rw [e1, show zs (row ++ [(kk : Int)]) = zs row ++ zs [(kk : Int)] from List.map_append]
              exact hp7
          | none =>
            have htm : t ∉ L ++ Q := (fnd_none _ t 0).1 hf
            have hsn := fnd_snoc (L ++ Q) t 0 htm
            rw [Nat.zero_add] at hsn
            have hQQ : L ++ (Q ++ [t]) = (L ++ Q) ++ [t] := (List.append_assoc _ _ _).symm
            have htr : trL l P ((L ++ Q) ++ [t]) u = ((L ++ Q).length : Nat) := by unfold trL; rw [if_neg (by rw [he]; decide), ← htu, hsn]; rfl
            have hrow2 := hrs [t] hcl
            have hn1 : ((L ++ Q) ++ [t]).Nodup := by
              rw [List.nodup_append]
              refine ⟨hn0, List.pairwise_singleton _ _, fun a ha b hb => ?_⟩
              rw [List.mem_singleton.1 hb]
              rintro rfl
              exact htm ha
            have hs1 : ∀ p ∈ (L ++ Q) ++ [t], p ∈ P := fun p hp => by
              rcases List.mem_append.1 hp with h | h
              · exact hs0 p h
              · rw [List.mem_singleton.1 h]; exact htP
            have hcl1 : ∀ c', c' < c + 1 → endB l (s ++ [ltr c']) = false → sufS P (s ++ [ltr c']) ∈ (L ++ Q) ++ [t] := fun c' hc' he' => by
              rcases Nat.lt_or_ge c' c with h | h
              · exact List.mem_append_left _ (hcl c' h he')
              · rw [show c' = c by omega, hue, ← htu]; exact List.mem_append_right _ (List.mem_singleton.2 rfl)
            have e0 : ((L ++ Q) ++ [t]).length = (L ++ Q).length + 1 := by rw [List.length_append]; rfl
            have e1 : (row ++ [(((L ++ Q).length : Nat) : Int)]).length = row.length + 1 := by rw [List.length_append]; rfl
            have hrow3 : row ++ [(((L ++ Q).length : Nat) : Int)] = (List.range (c + 1)).map (fun c => trL l P ((L ++ Q) ++ [t]) (s ++ [ltr c])) := by rw [hrsucc, htr, ← hrow2]
            clear hf hrow2 hsn htr hrs hrsucc hrow hcl
            repeat (first | refine WC.seq ?_ | refine WC.reg ?_ | refine WL.pure rfl rfl rfl ?_ | refine WL.nil ?_ | refine WC.skip ?_ | refine WC.block ?_ | refine WC.condT rfl ?_ | refine WC.condF rfl ?_ | refine WL.off rfl rfl rfl ?_ | refine WL.off0 rfl rfl ?_ | refine WC.exit ?_ | refine blk_hit ?_ | refine blk_miss rfl ?_ | refine WC.ret ?_)
            refine WL.loadB rfl rfl rfl rfl rfl (hp5.obj 1 rfl) (j := 0) rfl ?_
            repeat (first | refine WC.seq ?_ | refine WC.reg ?_ | refine WL.pure rfl rfl rfl ?_ | refine WL.nil ?_ | refine WC.skip ?_ | refine WC.block ?_ | refine WC.condT rfl ?_ | refine WC.condF rfl ?_ | refine WL.off rfl rfl rfl ?_ | refine WL.off0 rfl rfl ?_ | refine WC.exit ?_ | refine blk_hit ?_ | refine blk_miss rfl ?_ | refine WC.ret ?_)
            refine WL.loadB rfl rfl rfl rfl rfl (hp5.obj 1 rfl) (j := 0) rfl ?_
            repeat (first | refine WC.seq ?_ | refine WC.reg ?_ | refine WL.pure rfl rfl rfl ?_ | refine WL.nil ?_ | refine WC.skip ?_ | refine WC.block ?_ | refine WC.condT rfl ?_ | refine WC.condF rfl ?_ | refine WL.off rfl rfl rfl ?_ | refine WL.off0 rfl rfl ?_ | refine WC.exit ?_ | refine blk_hit ?_ | refine blk_miss rfl ?_ | refine WC.ret ?_)
            refine WL.buildS (cs := [st t]) rfl rfl rfl rfl rfl rfl rfl rfl rfl ?_
            intro b6 w6 hb6
            have hp6 := hp5.new hb6
            refine WL.append 3 hp6 rfl rfl rfl rfl rfl (by decide) rfl rfl rfl (news := [st t]) (Sl.of_obj (hp6.obj 0 rfl) (fun q u hq => by simpa using hq)) rfl (st_cells [t]) (by unfold maxLen; omega) (by show ((L ++ Q).length + 1) * 16 ≤ _; omega) ?_
            intro na nc w7 hp7 hg7
            have hp7 := hp7.tail
            repeat (first | refine WC.seq ?_ | refine WC.reg ?_ | refine WL.pure rfl rfl rfl ?_ | refine WL.nil ?_ | refine WC.skip ?_ | refine WC.block ?_ | refine WC.condT rfl ?_ | refine WC.condF rfl ?_ | refine WL.off rfl rfl rfl ?_ | refine WL.off0 rfl rfl ?_ | refine WC.exit ?_ | refine blk_hit ?_ | refine blk_miss rfl ?_ | refine WC.ret ?_)
            refine WL.store rfl rfl rfl rfl rfl rfl (hp7.obj 1 rfl) (by show 0 < 2; omega) (fun w8 hw8 => ?_)
            have hp8 := hp7.set 1 rfl rfl hw8
            have hp8 : Hp w w8 [Ri (.slice ra row.length rc1) row, Xm b8 (.slice na ((L ++ Q).length + 1) nc) (.slice ta R.length tc), .row 9 1 (.slice na ((L ++ Q).length + 1) nc) ((L ++ Q).length + 1) ((L ++ Q).map st ++ [st t]), Rk (.slice ta R.length tc) R, Mq R, Rs (.slice va P.length vc) P, Xm b4 (.slice none 0 0) (.slice none 0 0)] := hp8
            have hp8 : Hp w w8 [Ri (.slice ra row.length rc1) row, Xm b8 (.slice na ((L ++ Q) ++ [t]).length nc) (.slice ta R.length tc), Rs (.slice na ((L ++ Q) ++ [t]).length nc) ((L ++ Q) ++ [t]), Rk (.slice ta R.length tc) R, Mq R, Rs (.slice va P.length vc) P, Xm b4 (.slice none 0 0) (.slice none 0 0)] := by
              unfold Rs
              rw [e0, List.map_append]
              exact hp8
            clear hp7 hp6 hp5 hw8 hg7 hb6
            repeat (first | refine WC.seq ?_ | refine WC.reg ?_ | refine WL.pure rfl rfl rfl ?_ | refine WL.nil ?_ | refine WC.skip ?_ | refine WC.block ?_ | refine WC.condT rfl ?_ | refine WC.condF rfl ?_ | refine WL.off rfl rfl rfl ?_ | refine WL.off0 rfl rfl ?_ | refine WC.exit ?_ | refine blk_hit ?_ | refine blk_miss rfl ?_ | refine WC.ret ?_)
            refine WL.buildS (cs := zs [((L ++ Q).length : Nat)]) rfl rfl rfl rfl rfl rfl rfl rfl rfl ?_
            intro b7 w9 hb7
            have hp9 := hp8.new hb7
            refine WL.append 1 hp9 rfl rfl rfl rfl rfl (by decide) rfl rfl rfl (news := zs [((L ++ Q).length : Nat)]) (Sl.of_obj (hp9.obj 0 rfl) (fun q u hq => by simpa using hq)) rfl (zs_cells _) (by unfold maxLen; omega) (by show (row.length + 1) * 8 ≤ _; omega) ?_
            intro rb rc2 w10 hp10 hg10
            have hp10 := hp10.tail
            repeat (first | refine WC.seq ?_ | refine WC.reg ?_ | refine WL.pure rfl rfl rfl ?_ | refine WL.nil ?_ | refine WC.skip ?_ | refine WC.block ?_ | refine WC.condT rfl ?_ | refine WC.condF rfl ?_ | refine WL.off rfl rfl rfl ?_ | refine WL.off0 rfl rfl ?_ | refine WC.exit ?_ | refine blk_hit ?_ | refine blk_miss rfl ?_ | refine WC.ret ?_)
            refine ⟨(c + 1, na, nc, Q ++ [t], rb, rc2, row ++ [(((L ++ Q).length : Nat) : Int)]), (by show n - (c + 1) < n - c; omega), ⟨rfl, rfl, rfl, rfl, rfl, rfl, congrArg (fun z : Nat => some (Value.slice rb z rc2)) e1.symm, congrArg (fun z => some (Value.int .i64 z)) stepc, rfl⟩, by omega, by rw [hQQ]; exact hn1, by rw [hQQ]; exact hs1, by omega, by rw [hQQ]; exact hrow3, by rw [hQQ]; exact hcl1, ?_⟩
            rw [hQQ]
            show Hp w w10 [Ri _ _, _, _, _, _, _, _]
            unfold Ri
            rw [e1, show zs (row ++ [(((L ++ Q).length : Nat) : Int)]) = zs row ++ zs [(((L ++ Q).length : Nat) : Int)] from List.map_append]
            exact hp10
    · have hc : c = n := by have := of_decide_eq_false hc2; omega
      subst hc
      have hR : R.length = q := hB.len
      obtain ⟨rb, rcap, cur, hv, hnc, hcm, hcs, htk, hp4⟩ := hp3.unrow (by omega)
      simp only [Value.slice.injEq] at hv
      obtain ⟨rfl, _, rfl⟩ := hv
      rw [Nat.mul_one] at htk
      have hBn : Bfs l P c (L ++ Q) (R ++ [(rb, rc1, cur, row)]) (q + 1) := hB.next hq hn0 hs0 hcl hrow htk
      have e2 : (R ++ [(rb, rc1, cur, row)]).length = R.length + 1 := by rw [List.length_append]; rfl
      have e3 : rvQ (R ++ [(rb, rc1, cur, row)]) = rvQ R ++ rvQ [(rb, rc1, cur, row)] := by unfold rvQ; rw [List.map_append]
      have e4 : (R ++ [(rb, rc1, cur, row)]).reverse.map rbQ = rbQ (rb, rc1, cur, row) :: R.reverse.map rbQ := by rw [List.reverse_append]; rfl
      have e5 : rvQ [(rb, rc1, cur, row)] = [.slice (some ⟨rb, 0, none⟩) row.length rc1] := rfl
      clear hp3 hrow hcl
      repeat (first | refine WC.seq ?_ | refine WC.reg ?_ | refine WL.pure rfl rfl rfl ?_ | refine WL.nil ?_ | refine WC.skip ?_ | refine WC.block ?_ | refine WC.condT rfl ?_ | refine WC.condF rfl ?_ | refine WL.off rfl rfl rfl ?_ | refine WL.off0 rfl rfl ?_ | refine WC.exit ?_ | refine blk_hit ?_ | refine blk_miss rfl ?_ | refine WC.ret ?_)
      refine WL.loadB rfl rfl rfl rfl rfl (hp4.obj 1 rfl) (j := 1) rfl ?_
      repeat (first | refine WC.seq ?_ | refine WC.reg ?_ | refine WL.pure rfl rfl rfl ?_ | refine WL.nil ?_ | refine WC.skip ?_ | refine WC.block ?_ | refine WC.condT rfl ?_ | refine WC.condF rfl ?_ | refine WL.off rfl rfl rfl ?_ | refine WL.off0 rfl rfl ?_ | refine WC.exit ?_ | refine blk_hit ?_ | refine blk_miss rfl ?_ | refine WC.ret ?_)
      refine WL.buildS (cs := [.slice (some ⟨rb, 0, none⟩) row.length rc1]) rfl rfl rfl rfl rfl rfl rfl rfl rfl ?_
      intro b6 w6 hb6
      have hp6 := hp4.new hb6
      refine WL.append 4 hp6 rfl rfl rfl rfl rfl (by decide) rfl rfl rfl (news := rvQ [(rb, rc1, cur, row)]) (by rw [e5]; exact Sl.of_obj (hp6.obj 0 rfl) (fun q u hq => by simpa using hq)) rfl (rvQ_cells _) (by unfold maxLen; omega) (by show (R.length + 1) * 24 ≤ _; omega) ?_
      intro na nc w7 hp7 hg7
      have hp7 := hp7.tail
      repeat (first | refine WC.seq ?_ | refine WC.reg ?_ | refine WL.pure rfl rfl rfl ?_ | refine WL.nil ?_ | refine WC.skip ?_ | refine WC.block ?_ | refine WC.condT rfl ?_ | refine WC.condF rfl ?_ | refine WL.off rfl rfl rfl ?_ | refine WL.off0 rfl rfl ?_ | refine WC.exit ?_ | refine blk_hit ?_ | refine blk_miss rfl ?_ | refine WC.ret ?_)
      refine WL.store rfl rfl rfl rfl rfl rfl (hp7.obj 1 rfl) (by show 0 + 1 < 2; omega) (fun w8 hw8 => ?_)
      have hp8 := hp7.set 1 rfl rfl hw8
      have hp8 : Hp w w8 [.blk rb (.cells cur 3 (0, 0)), Mq R, Xm b8 (.slice sa (L ++ Q).length sc) (.slice na (R.length + 1) nc), Rs (.slice sa (L ++ Q).length sc) (L ++ Q), .row 61 1 (.slice na (R.length + 1) nc) (R.length + 1) (rvQ R ++ rvQ [(rb, rc1, cur, row)]), Rs (.slice va P.length vc) P, Xm b4 (.slice none 0 0) (.slice none 0 0)] := hp8.pick [0, 4, 1, 2, 3, 5, 6] (by decide)
      have hp9 := hp8.join.pick [1, 2, 3, 0, 4, 5] (by decide)
      repeat (first | refine WC.seq ?_ | refine WC.reg ?_ | refine WL.pure rfl rfl rfl ?_ | refine WL.nil ?_ | refine WC.skip ?_ | refine WC.block ?_ | refine WC.condT rfl ?_ | refine WC.condF rfl ?_ | refine WL.off rfl rfl rfl ?_ | refine WL.off0 rfl rfl ?_ | refine WC.exit ?_ | refine blk_hit ?_ | refine blk_miss rfl ?_ | refine WC.ret ?_)
      refine ⟨(q + 1, sa, sc, L ++ Q, na, nc, R ++ [(rb, rc1, cur, row)]), (by show P.length - (q + 1) < P.length - q; omega), ⟨rfl, rfl, rfl, rfl, rfl, congrArg (fun z => some (Value.int .i64 z)) stepq, rfl⟩, hBn, ?_⟩
      show Hp w w8 [Xm _ _ _, Rs _ _, Rk _ _, Mq _, _, _]
      unfold Rk Mq
      rw [e2, e3, e4]
      exact hp9
  · have hq : q = L.length := by have h1 := of_decide_eq_false hc1; have h2 := hB.le; omega
    subst hq
    rw [hPf] at hB hLP
    repeat (first | refine WC.seq ?_ | refine WC.reg ?_ | refine WL.pure rfl rfl rfl ?_ | refine WL.nil ?_ | refine WC.skip ?_ | refine WC.block ?_ | refine WC.condT rfl ?_ | refine WC.condF rfl ?_ | refine WL.off rfl rfl rfl ?_ | refine WL.off0 rfl rfl ?_ | refine WC.exit ?_ | refine blk_hit ?_ | refine blk_miss rfl ?_ | refine WC.ret ?_)
    refine WL.loadN (cs := [.slice sa L.length sc, .slice ta R.length tc]) rfl rfl rfl rfl rfl rfl (fun j v hj => cell_of_obj (hp2.obj 0 rfl) (by rw [Nat.zero_add]; simpa using hj)) ?_
    refine WL.storeN (vs := #[.slice sa L.length sc, .slice ta R.length tc]) (arr2 := #[.slice sa L.length sc, .slice ta R.length tc]) rfl rfl rfl rfl rfl (by intro v hv; simp only [List.mem_cons, List.not_mem_nil, or_false] at hv; rcases hv with rfl | rfl <;> rfl) (hp2.obj 5 rfl) (Nat.le_refl 2) rfl (fun w4 hw4 => ?_)
    have hp4 := hp2.set 5 rfl rfl hw4
    repeat (first | refine WC.seq ?_ | refine WC.reg ?_ | refine WL.pure rfl rfl rfl ?_ | refine WL.nil ?_ | refine WC.skip ?_ | refine WC.block ?_ | refine WC.condT rfl ?_ | refine WC.condF rfl ?_ | refine WL.off rfl rfl rfl ?_ | refine WL.off0 rfl rfl ?_ | refine WC.exit ?_ | refine blk_hit ?_ | refine blk_miss rfl ?_ | refine WC.ret ?_)
    refine Res.cell rfl rfl rfl rfl rfl rfl (hp4.obj 5 rfl) ⟨sa, sc, ta, tc, L, R, rfl, hB.len, hB.mch hd, ⟨Sl.of_row (hp4.at 2 rfl), fun x hx => ?_⟩, hLP, hp4.nil'⟩
    have hsat := (hp4.at 3 rfl).2 x.1 (.cells x.2.2.1 3 (0, 0)) (List.mem_map.2 ⟨x, List.mem_reverse.2 hx, rfl⟩)
    refine Sl.of_obj hsat.2 (fun j u hu => ?_)
    rw [← hB.good x hx] at hu
    rw [List.getElem?_take] at hu
    split at hu
    · simpa using hu
    · cases hu
end Go.Proofs.YtoghnhbjdnjghaaGreat
