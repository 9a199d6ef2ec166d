/- The walk of the automaton's making. -/
import Derived.Test.YtoghnhbjdnjghaaGreatV19
import Derived.Laws.IdiomStrings
namespace Go.Words
open Go.W
def addP (P : List Str) (p : Str) : List Str := if (fnd P p 0).isSome then P else P ++ [p]
def preR (P : List Str) (x : Str) : List Str := (List.range (x.length - 1)).foldl (fun P k => addP P (x.take (k + 1))) P
/-- The proper beginnings of the left sides. -/
def prefM (l : List Rl) : List Str := l.foldl (fun P r => preR P r.1) [[]]
def rowM (l : List Rl) (P : List Str) (k : Nat) (s : Str) : List Int := (List.range k).map fun c => stepM l P (s ++ [UInt8.ofNat (97 + c)])
def tabM (l : List Rl) (k : Nat) : List (List Int) := (prefM l).map (rowM l (prefM l) k)
theorem foldl_range_succ {α : Type} (f : α → Nat → α) (a : α) (n : Nat) : (List.range (n + 1)).foldl f a = f ((List.range n).foldl f a) n := by
  rw [List.range_succ, List.foldl_append]; rfl
theorem foldl_take_succ {α β : Type} (f : α → β → α) (a : α) {l : List β} {i : Nat} (hi : i < l.length) : (l.take (i + 1)).foldl f a = f ((l.take i).foldl f a) l[i] := by
  rw [List.take_succ_eq_append_getElem hi, List.foldl_append]; rfl
/-- What a list of beginnings has. -/
structure Pfx (m : Nat) (P : List Str) : Prop where
  head : (fnd P [] 0) = some 0
  small : ∀ p ∈ P, p.length ≤ 1000
  len : P.length ≤ m
theorem fnd_app {P Q : List Str} {s : Str} {i q : Nat} (h : fnd P s i = some q) : fnd (P ++ Q) s i = some q := by
  induction P generalizing i with
  | nil => cases h
  | cons p P ih =>
    rw [List.cons_append, fnd]
    rw [fnd] at h
    split
    · rename_i hs; rw [if_pos hs] at h; exact h
    · rename_i hs; rw [if_neg hs] at h; exact ih h
theorem Pfx.add {m : Nat} {P : List Str} (h : Pfx m P) {p : Str} (hp : p.length ≤ 1000) : Pfx (m + 1) (addP P p) := by
  unfold addP
  split
  · exact ⟨h.head, h.small, Nat.le_succ_of_le h.len⟩
  · refine ⟨fnd_app h.head, fun q hq => ?_, by rw [List.length_append, List.length_singleton]; exact Nat.succ_le_succ h.len⟩
    rcases List.mem_append.1 hq with hq | hq
    · exact h.small q hq
    · rw [List.mem_singleton.1 hq]; exact hp
theorem fnd_lt {P : List Str} {s : Str} {i q : Nat} (h : fnd P s i = some q) : q < i + P.length := by
  induction P generalizing i with
  | nil => cases h
  | cons p P ih =>
    rw [fnd] at h
    split at h
    · obtain rfl := Option.some.inj h; rw [List.length_cons]; omega
    · have := ih h; rw [List.length_cons]; omega
theorem stepS_lt {P : List Str} (h : (fnd P [] 0) = some 0) : ∀ s : Str, stepS P s < P.length := by
  intro s
  induction s with
  | nil => rw [stepS, h]; have := fnd_lt h; simpa using this
  | cons c s ih =>
    rw [stepS]
    cases hf : fnd P (c :: s) 0 with
    | none => exact ih
    | some q => have := fnd_lt hf; simpa using this
theorem stepM_lt {l : List Rl} {P : List Str} (h : (fnd P [] 0) = some 0) (s : Str) : stepM l P s < (P.length : Int) := by
  unfold stepM
  have := stepS_lt h s
  split <;> omega
theorem preR_pfx {m n : Nat} {P : List Str} {x : Str} (h : Pfx m P) (hx : x.length ≤ n) (hn : n ≤ 1000) : Pfx (m + n) (preR P x) := by
  have key : ∀ j, Pfx (m + j) ((List.range j).foldl (fun P k => addP P (x.take (k + 1))) P) := by
    intro j
    induction j with
    | zero => exact h
    | succ j ih =>
      rw [foldl_range_succ]
      exact ih.add (by rw [List.length_take]; omega)
  have := key (x.length - 1)
  exact ⟨this.head, this.small, by have := this.len; unfold preR; omega⟩
theorem prefM_pfx {l : List Rl} (h : Sm 24 l) : Pfx (1 + l.length * 24) (prefM l) := by
  have key : ∀ i, i ≤ l.length → Pfx (1 + i * 24) ((l.take i).foldl (fun P r => preR P r.1) [[]]) := by
    intro i
    induction i with
    | zero => intro _; exact ⟨rfl, fun p hp => by rw [List.mem_singleton.1 hp]; exact Nat.zero_le _, Nat.le_refl _⟩
    | succ i ih =>
      intro hi
      rw [foldl_take_succ _ _ hi]
      have := preR_pfx (ih (by omega)) (h.at_ hi).1 (by decide)
      rw [show 1 + i * 24 + 24 = 1 + (i + 1) * 24 by omega] at this
      exact this
  have := key l.length (Nat.le_refl _)
  rw [List.take_length] at this
  exact this
theorem tabM_tb (l : List Rl) {k : Nat} (hk : k ≤ 8) (h : Sm 24 l) : Tb (tabM l k).length (tabM l k) := by
  have hp := prefM_pfx h
  intro row hr
  obtain ⟨s, _, rfl⟩ := List.mem_map.1 hr
  refine ⟨by unfold rowM; simp; omega, fun t ht => ?_⟩
  obtain ⟨c, _, rfl⟩ := List.mem_map.1 ht
  have := stepM_lt (l := l) hp.head (s ++ [UInt8.ofNat (97 + c)])
  unfold tabM
  rw [List.length_map]
  exact this
end Go.Words
namespace Go.W
open Go.RowKit
section
variable {P : Program} [T : TT P] {ro : Option Nat} {n : Nat} {l0 rest : List Oper} {N : Nor} {Z : Pan} {e : Env} {w : World} {ty : TypeId} {pos : String} {aft : Array Edge} {g : Option (Nat × Bool)}
/-- A list of one byte as a string. -/
theorem WL.convB {d : Nat} {t t2 E : TypeId} {i : TI} {z z2 : Value} {s0 b0 s2 b2 c : Nat} {x : Operand} {a : Addr} {u : UInt8} (hg : grd l0 e g = some true) (hd : Nat.blt d n = true) (ht : T.ti t = some ⟨.slice E, z, s0, b0⟩) (hE : T.ti E = some i) (hu8 : i.k = .int .u8) (ht2 : T.ti t2 = some ⟨.string, z2, s2, b2⟩)
    (hx : opv e x = some (.slice (some a) 1 c)) (hc : w.cell? a = some (.int .u8 (u.toNat : Nat)))
    (h : WL P ro n l0 N Z rest ((d, st [u]) :: e) w) : WL P ro n l0 N Z (⟨some d, .convert t t2 x, ty, pos, aft, g⟩ :: rest) e w := by
  have hs : P.underlying t = some (.slice E) := (T.ok t _ ht).k
  have he0 := (T.ok E i hE).k
  rw [hu8] at he0
  have he : P.underlying E = some (.int .u8) := he0
  have hd2 : P.underlying t2 = some .string := (T.ok t2 _ ht2).k
  have hr := run_convert_bytes_back (P := P) w t t2 E a c [u] hs he hd2 (fun j hj => by
    have : j = 0 := by simpa using hj
    subst this
    rw [Addr.add_zero']
    exact hc)
  refine WL.val hg rfl hd ?_ h
  intro ρ hρ d' pos' aft' g'
  simp only [execOp, hρ _ _ hx]
  rw [show ([u] : List UInt8).length = 1 from rfl] at hr
  simp [hr, st, sb]
end
end Go.W
namespace Go.Proofs.YtoghnhbjdnjghaaGreat
open Go.W Go.Words Go.RowKit
set_option maxRecDepth 100000
attribute [local irreducible] WC WL WQ WS WH

/-- A row of strings. -/
abbrev Rs (v : Value) (P : List Str) : Ent := .row 9 1 v P.length (P.map st)
theorem st_cells (P : List Str) : Cells (P.map st) := by
  intro v hv
  obtain ⟨x, _, rfl⟩ := List.mem_map.1 hv
  rfl
def rwB (x : Nat × List Int) : Nat × Obj := (x.1, .cells (zs x.2).toArray 3 (0, 0))
/-- The rows so far. -/
abbrev Mr (R : Rws) : Ent := .many (R.reverse.map rwB)
abbrev Rn (v : Value) (R : Rws) : Ent := .row 61 1 v R.length (rwV R)
abbrev Xa (xb : Nat) (v : Value) : Ent := .blk xb (.cells #[v] 84 (0, 0))
theorem rwV_cells (R : Rws) : Cells (rwV R) := by
  intro v hv
  obtain ⟨x, _, rfl⟩ := List.mem_map.1 hv
  rfl
theorem byte_val {c : Nat} (hc : c ≤ 8) : IntKind.u8.wrap (IntKind.i64.wrap (97 + (c : Int))) = ((UInt8.ofNat (97 + c)).toNat : Nat) := by
  have : c = 0 ∨ c = 1 ∨ c = 2 ∨ c = 3 ∨ c = 4 ∨ c = 5 ∨ c = 6 ∨ c = 7 ∨ c = 8 := by omega
  rcases this with rfl | rfl | rfl | rfl | rfl | rfl | rfl | rfl | rfl <;> rfl
set_option maxHeartbeats 1000000 in
theorem newAut_any (a : Option Addr) (cap : Nat) (l : List Rl) (n : Nat) (hn1 : 1 ≤ n) (hn : n ≤ 8) (hl : l.length ≤ 64) (hm : Sm 24 l) (w : World) (hs : Sl w a (rcs l)) :
    Ret Tryz.prog 54 [.slice a l.length cap, .int .i64 (n : Nat)] w fun u w' => ∃ xb R, u = .pointer (some ⟨xb, 0, none⟩) ∧ R.map (·.2) = tabM l n ∧ Aut w' xb R ∧ Hp w w' [] := by
  refine enter Tryz.func54 rfl rfl ⟨rfl, rfl⟩ rfl ?_
  repeat (first | refine WC.seq ?_ | refine WC.reg ?_ | refine WL.pure rfl rfl rfl ?_ | refine WL.nil ?_ | refine WC.skip ?_ | refine WC.block ?_ | refine WC.condT rfl ?_ | refine WC.condF rfl ?_ | refine WL.off rfl rfl rfl ?_ | refine WL.off0 rfl rfl ?_ | refine WC.exit ?_ | refine blk_hit ?_ | refine blk_miss rfl ?_ | refine WC.ret ?_)
  refine WL.buildT (cs := [.slice none 0 0]) rfl rfl rfl rfl rfl rfl ?_
  refine WL.box rfl rfl rfl ?_
  intro xb w1 hxb
  have hp1 : Hp w w1 [Xa xb (.slice none 0 0)] := (Hp.start w).new hxb
  repeat (first | refine WC.seq ?_ | refine WC.reg ?_ | refine WL.pure rfl rfl rfl ?_ | refine WL.nil ?_ | refine WC.skip ?_ | refine WC.block ?_ | refine WC.condT rfl ?_ | refine WC.condF rfl ?_ | refine WL.off rfl rfl rfl ?_ | refine WL.off0 rfl rfl ?_ | refine WC.exit ?_ | refine blk_hit ?_ | refine blk_miss rfl ?_ | refine WC.ret ?_)
  refine WL.makeMap rfl rfl ?_
  intro mb w2 hmb
  have hp2 := hp1.new hmb
  refine WL.insS (L := []) (s := []) rfl rfl rfl rfl rfl rfl (hp2.obj 0 rfl) trivial rfl (fun es c w3 hM hw3 => ?_)
  have hp3 := hp2.set 0 rfl rfl hw3
  repeat (first | refine WC.seq ?_ | refine WC.reg ?_ | refine WL.pure rfl rfl rfl ?_ | refine WL.nil ?_ | refine WC.skip ?_ | refine WC.block ?_ | refine WC.condT rfl ?_ | refine WC.condF rfl ?_ | refine WL.off rfl rfl rfl ?_ | refine WL.off0 rfl rfl ?_ | refine WC.exit ?_ | refine blk_hit ?_ | refine blk_miss rfl ?_ | refine WC.ret ?_)
  refine WL.buildS (cs := [st []]) rfl rfl rfl rfl rfl rfl rfl rfl rfl ?_
  intro pb w4 hpb
  have hp4 : Hp w w4 [Rs (.slice (some ⟨pb, 0, none⟩) 1 1) [[]], Mp mb es c, Xa xb (.slice none 0 0)] := (hp3.new hpb).toRow (m := 1) (s := 1) rfl (by decide)
  clear hp3 hp2 hp1 hw3 hpb hmb hxb
  repeat (first | refine WC.seq ?_ | refine WC.reg ?_ | refine WL.pure rfl rfl rfl ?_ | refine WL.nil ?_ | refine WC.skip ?_ | refine WC.block ?_ | refine WC.condT rfl ?_ | refine WC.condF rfl ?_ | refine WL.off rfl rfl rfl ?_ | refine WL.off0 rfl rfl ?_ | refine WC.exit ?_ | refine blk_hit ?_ | refine blk_miss rfl ?_ | refine WC.ret ?_)
  refine WC.loop (Nat × Option Addr × Nat × List Str × Array MapEntry × Nat) (fun (i, va, vc, P, _) => [(0, .slice a l.length cap), (1, .int .i64 (n : Nat)), (5, .pointer (some ⟨xb, 0, none⟩)), (6, .map (some mb)), (7, .slice va P.length vc), (22, .slice a l.length cap), (23, .int .i64 (l.length : Nat)), (24, .int .i64 (i : Nat))])
    (fun (i, va, vc, P, es, c) w' => i ≤ l.length ∧ P = (l.take i).foldl (fun P r => preR P r.1) [[]] ∧ Pfx (1 + i * 24) P ∧ MEL es.toList P 0 ∧ Hp w w' [Rs (.slice va P.length vc) P, Mp mb es c, Xa xb (.slice none 0 0)]) (fun (i, _) => l.length - i) (0, some ⟨pb, 0, none⟩, 1, [[]], es, c) ⟨rfl, rfl, rfl, rfl, rfl, rfl, rfl, rfl, rfl⟩
    ⟨Nat.zero_le _, rfl, ⟨rfl, fun p hp => by rw [List.mem_singleton.1 hp]; exact Nat.zero_le _, Nat.le_refl _⟩, hM, hp4⟩ ?_
  clear hp4 hM
  rintro ⟨i, va, vc, P, es, c⟩ w1 ⟨hi, hP, hX, hM, hp1⟩
  repeat (first | refine WC.seq ?_ | refine WC.reg ?_ | refine WL.pure rfl rfl rfl ?_ | refine WL.nil ?_ | refine WC.skip ?_ | refine WC.block ?_ | refine WC.condT rfl ?_ | refine WC.condF rfl ?_ | refine WL.off rfl rfl rfl ?_ | refine WL.off0 rfl rfl ?_ | refine WC.exit ?_ | refine blk_hit ?_ | refine blk_miss rfl ?_ | refine WC.ret ?_)
  refine WC.cond rfl (fun hc => ?_) (fun hc => ?_)
  · have hi : i < l.length := by have := of_decide_eq_true hc; omega
    have step := wrap_succ hi (by omega)
    have hsucc := foldl_take_succ (fun P r => preR P r.1) [[]] hi
    have hsz := hm.at_ hi
    rw [← hP] at hsucc
    repeat (first | refine WC.seq ?_ | refine WC.reg ?_ | refine WL.pure rfl rfl rfl ?_ | refine WL.nil ?_ | refine WC.skip ?_ | refine WC.block ?_ | refine WC.condT rfl ?_ | refine WC.condF rfl ?_ | refine WL.off rfl rfl rfl ?_ | refine WL.off0 rfl rfl ?_ | refine WC.exit ?_ | refine blk_hit ?_ | refine blk_miss rfl ?_ | refine WC.ret ?_)
    refine WL.ixload2 rfl (fun _ => rfl) rfl rfl rfl rfl rfl rfl rfl hi rfl rfl (hs.hp hp1) hi ?_
    intro pp
    generalize l[i] = r at *
    refine WL.alloc rfl rfl rfl ?_
    intro b9 w2 hb9
    have hp2 := hp1.new hb9
    repeat (first | refine WC.seq ?_ | refine WC.reg ?_ | refine WL.pure rfl rfl rfl ?_ | refine WL.nil ?_ | refine WC.skip ?_ | refine WC.block ?_ | refine WC.condT rfl ?_ | refine WC.condF rfl ?_ | refine WL.off rfl rfl rfl ?_ | refine WL.off0 rfl rfl ?_ | refine WC.exit ?_ | refine blk_hit ?_ | refine blk_miss rfl ?_ | refine WC.ret ?_)
    refine WL.storeN (vs := (rc r).toArray) (arr2 := (rc r).toArray) rfl rfl rfl rfl rfl (rc_one _) (hp2.obj 0 rfl) (Nat.le_refl 2) rfl (fun w3 hw3 => ?_)
    have hp3 : Hp w w3 [Bx b9 r, Rs (.slice va P.length vc) P, Mp mb es c, Xa xb (.slice none 0 0)] := hp2.set 0 rfl rfl hw3
    clear hp2 hp1 hw3 hb9
    repeat (first | refine WC.seq ?_ | refine WC.reg ?_ | refine WL.pure rfl rfl rfl ?_ | refine WL.nil ?_ | refine WC.skip ?_ | refine WC.block ?_ | refine WC.condT rfl ?_ | refine WC.condF rfl ?_ | refine WL.off rfl rfl rfl ?_ | refine WL.off0 rfl rfl ?_ | refine WC.exit ?_ | refine blk_hit ?_ | refine blk_miss rfl ?_ | refine WC.ret ?_)
    refine WC.loop (Nat × Option Addr × Nat × List Str × Array MapEntry × Nat) (fun (j, va, vc, P, _) => [(0, .slice a l.length cap), (1, .int .i64 (n : Nat)), (5, .pointer (some ⟨xb, 0, none⟩)), (6, .map (some mb)), (7, .slice va P.length vc), (9, .pointer (some ⟨b9, 0, none⟩)), (10, .int .i64 (j + 1 : Nat)), (22, .slice a l.length cap), (23, .int .i64 (l.length : Nat)), (24, .int .i64 (i : Nat))])
      (fun (j, va, vc, P2, es, c) w' => j ≤ r.1.length - 1 ∧ P2 = (List.range j).foldl (fun P k => addP P (r.1.take (k + 1))) P ∧ Pfx (1 + i * 24 + j) P2 ∧ MEL es.toList P2 0 ∧ Hp w w' [Bx b9 r, Rs (.slice va P2.length vc) P2, Mp mb es c, Xa xb (.slice none 0 0)]) (fun (j, _) => r.1.length - j) (0, va, vc, P, es, c) ⟨rfl, rfl, rfl, rfl, rfl, rfl, rfl, rfl, rfl, rfl, rfl⟩
      ⟨Nat.zero_le _, rfl, hX, hM, hp3⟩ ?_
    clear hp3 hM
    rintro ⟨j, va, vc, P2, es, c⟩ w2 ⟨hj, hP2, hX2, hM2, hp2⟩
    have hPl := hX2.len
    repeat (first | refine WC.seq ?_ | refine WC.reg ?_ | refine WL.pure rfl rfl rfl ?_ | refine WL.nil ?_ | refine WC.skip ?_ | refine WC.block ?_ | refine WC.condT rfl ?_ | refine WC.condF rfl ?_ | refine WL.off rfl rfl rfl ?_ | refine WL.off0 rfl rfl ?_ | refine WC.exit ?_ | refine blk_hit ?_ | refine blk_miss rfl ?_ | refine WC.ret ?_)
    refine WL.loadB rfl rfl rfl rfl rfl (hp2.obj 0 rfl) (j := 0) rfl ?_
    repeat (first | refine WC.seq ?_ | refine WC.reg ?_ | refine WL.pure rfl rfl rfl ?_ | refine WL.nil ?_ | refine WC.skip ?_ | refine WC.block ?_ | refine WC.condT rfl ?_ | refine WC.condF rfl ?_ | refine WL.off rfl rfl rfl ?_ | refine WL.off0 rfl rfl ?_ | refine WC.exit ?_ | refine blk_hit ?_ | refine blk_miss rfl ?_ | refine WC.ret ?_)
    refine WC.cond rfl (fun hc2 => ?_) (fun hc2 => ?_)
    · have hj : j + 1 < r.1.length := by have := of_decide_eq_true hc2; rw [sb_size] at this; omega
      have stepj : IntKind.i64.wrap (((j + 1 : Nat) : Int) + 1) = ((j + 1 + 1 : Nat) : Int) := wrap_succ hj (by omega)
      have hsj := foldl_range_succ (fun P k => addP P (r.1.take (k + 1))) P j
      rw [← hP2] at hsj
      have e1 : (r.1.drop 0).take (j + 1 - 0) = r.1.take (j + 1) := rfl
      have hXa := hX2.add (p := r.1.take (j + 1)) (by rw [List.length_take]; omega)
      repeat (first | refine WC.seq ?_ | refine WC.reg ?_ | refine WL.pure rfl rfl rfl ?_ | refine WL.nil ?_ | refine WC.skip ?_ | refine WC.block ?_ | refine WC.condT rfl ?_ | refine WC.condF rfl ?_ | refine WL.off rfl rfl rfl ?_ | refine WL.off0 rfl rfl ?_ | refine WC.exit ?_ | refine blk_hit ?_ | refine blk_miss rfl ?_ | refine WC.ret ?_)
      refine WL.loadB rfl rfl rfl rfl rfl (hp2.obj 0 rfl) (j := 0) rfl ?_
      repeat (first | refine WC.seq ?_ | refine WC.reg ?_ | refine WL.pure rfl rfl rfl ?_ | refine WL.nil ?_ | refine WC.skip ?_ | refine WC.block ?_ | refine WC.condT rfl ?_ | refine WC.condF rfl ?_ | refine WL.off rfl rfl rfl ?_ | refine WL.off0 rfl rfl ?_ | refine WC.exit ?_ | refine blk_hit ?_ | refine blk_miss rfl ?_ | refine WC.ret ?_)
      refine WL.sSl (a := 0) (b := j + 1) rfl rfl rfl rfl rfl rfl (Nat.zero_le _) (by omega) ?_
      rw [e1]
      refine WL.lookS rfl rfl rfl rfl rfl rfl rfl rfl (hp2.obj 2 rfl) hM2 ?_
      cases hf : fnd P2 (r.1.take (j + 1)) 0 with
      | some q =>
        have hadd : addP P2 (r.1.take (j + 1)) = P2 := by unfold addP; rw [hf]; rfl
        rw [hadd] at hsj hXa
        repeat (first | refine WC.seq ?_ | refine WC.reg ?_ | refine WL.pure rfl rfl rfl ?_ | refine WL.nil ?_ | refine WC.skip ?_ | refine WC.block ?_ | refine WC.condT rfl ?_ | refine WC.condF rfl ?_ | refine WL.off rfl rfl rfl ?_ | refine WL.off0 rfl rfl ?_ | refine WC.exit ?_ | refine blk_hit ?_ | refine blk_miss rfl ?_ | refine WC.ret ?_)
        exact ⟨(j + 1, va, vc, P2, es, c), (by show r.1.length - (j + 1) < r.1.length - j; omega), ⟨rfl, rfl, rfl, rfl, rfl, rfl, congrArg (fun z => some (Value.int .i64 z)) stepj, rfl, rfl, rfl, rfl⟩, by omega, hsj.symm, hXa, hM2, hp2⟩
      | none =>
        have hadd : addP P2 (r.1.take (j + 1)) = P2 ++ [r.1.take (j + 1)] := by unfold addP; rw [hf]; rfl
        rw [hadd] at hsj hXa
        repeat (first | refine WC.seq ?_ | refine WC.reg ?_ | refine WL.pure rfl rfl rfl ?_ | refine WL.nil ?_ | refine WC.skip ?_ | refine WC.block ?_ | refine WC.condT rfl ?_ | refine WC.condF rfl ?_ | refine WL.off rfl rfl rfl ?_ | refine WL.off0 rfl rfl ?_ | refine WC.exit ?_ | refine blk_hit ?_ | refine blk_miss rfl ?_ | refine WC.ret ?_)
        refine WL.loadB rfl rfl rfl rfl rfl (hp2.obj 0 rfl) (j := 0) rfl ?_
        repeat (first | refine WC.seq ?_ | refine WC.reg ?_ | refine WL.pure rfl rfl rfl ?_ | refine WL.nil ?_ | refine WC.skip ?_ | refine WC.block ?_ | refine WC.condT rfl ?_ | refine WC.condF rfl ?_ | refine WL.off rfl rfl rfl ?_ | refine WL.off0 rfl rfl ?_ | refine WC.exit ?_ | refine blk_hit ?_ | refine blk_miss rfl ?_ | refine WC.ret ?_)
        refine WL.sSl (a := 0) (b := j + 1) rfl rfl rfl rfl rfl rfl (Nat.zero_le _) (by omega) ?_
        rw [e1]
        repeat (first | refine WC.seq ?_ | refine WC.reg ?_ | refine WL.pure rfl rfl rfl ?_ | refine WL.nil ?_ | refine WC.skip ?_ | refine WC.block ?_ | refine WC.condT rfl ?_ | refine WC.condF rfl ?_ | refine WL.off rfl rfl rfl ?_ | refine WL.off0 rfl rfl ?_ | refine WC.exit ?_ | refine blk_hit ?_ | refine blk_miss rfl ?_ | refine WC.ret ?_)
        refine WL.upS rfl rfl rfl rfl rfl rfl (hp2.obj 2 rfl) hM2 hf (fun es2 c2 w3 hM3 hw3 => ?_)
        have hp3 := hp2.set 2 rfl rfl hw3
        repeat (first | refine WC.seq ?_ | refine WC.reg ?_ | refine WL.pure rfl rfl rfl ?_ | refine WL.nil ?_ | refine WC.skip ?_ | refine WC.block ?_ | refine WC.condT rfl ?_ | refine WC.condF rfl ?_ | refine WL.off rfl rfl rfl ?_ | refine WL.off0 rfl rfl ?_ | refine WC.exit ?_ | refine blk_hit ?_ | refine blk_miss rfl ?_ | refine WC.ret ?_)
        refine WL.loadB rfl rfl rfl rfl rfl (hp3.obj 0 rfl) (j := 0) rfl ?_
        repeat (first | refine WC.seq ?_ | refine WC.reg ?_ | refine WL.pure rfl rfl rfl ?_ | refine WL.nil ?_ | refine WC.skip ?_ | refine WC.block ?_ | refine WC.condT rfl ?_ | refine WC.condF rfl ?_ | refine WL.off rfl rfl rfl ?_ | refine WL.off0 rfl rfl ?_ | refine WC.exit ?_ | refine blk_hit ?_ | refine blk_miss rfl ?_ | refine WC.ret ?_)
        refine WL.sSl (a := 0) (b := j + 1) rfl rfl rfl rfl rfl rfl (Nat.zero_le _) (by omega) ?_
        rw [e1]
        generalize r.1.take (j + 1) = p at *
        refine WL.buildS (cs := [st p]) rfl rfl rfl rfl rfl rfl rfl rfl rfl ?_
        intro b6 w4 hb4
        have hp4 := hp3.new hb4
        refine WL.append 2 hp4 rfl rfl rfl rfl rfl (by decide) rfl rfl rfl (news := [st p]) (Sl.of_obj (hp4.obj 0 rfl) (fun q u hq => by simpa using hq)) rfl (st_cells [p]) (by unfold maxLen; omega) (by show (P2.length + 1) * 16 ≤ _; omega) ?_
        intro ra rc1 w5 hp5 hg5
        have e2 : (P2 ++ [p]).length = P2.length + 1 := by rw [List.length_append]; rfl
        repeat (first | refine WC.seq ?_ | refine WC.reg ?_ | refine WL.pure rfl rfl rfl ?_ | refine WL.nil ?_ | refine WC.skip ?_ | refine WC.block ?_ | refine WC.condT rfl ?_ | refine WC.condF rfl ?_ | refine WL.off rfl rfl rfl ?_ | refine WL.off0 rfl rfl ?_ | refine WC.exit ?_ | refine blk_hit ?_ | refine blk_miss rfl ?_ | refine WC.ret ?_)
        refine ⟨(j + 1, ra, rc1, P2 ++ [p], es2, c2), (by show r.1.length - (j + 1) < r.1.length - j; omega), ⟨rfl, rfl, rfl, rfl, congrArg (fun z : Nat => some (Value.slice ra z rc1)) e2.symm, rfl, congrArg (fun z => some (Value.int .i64 z)) stepj, rfl, rfl, rfl, rfl⟩, by omega, hsj.symm, hXa, hM3, ?_⟩
        show Hp w w5 [_, Rs _ _, _, _]
        unfold Rs
        rw [e2, List.map_append]
        exact hp5.tail
    · have hje : j = r.1.length - 1 := by have := of_decide_eq_false hc2; rw [sb_size] at this; omega
      have hpr : P2 = preR P r.1 := by rw [hP2, hje]; rfl
      repeat (first | refine WC.seq ?_ | refine WC.reg ?_ | refine WL.pure rfl rfl rfl ?_ | refine WL.nil ?_ | refine WC.skip ?_ | refine WC.block ?_ | refine WC.condT rfl ?_ | refine WC.condF rfl ?_ | refine WL.off rfl rfl rfl ?_ | refine WL.off0 rfl rfl ?_ | refine WC.exit ?_ | refine blk_hit ?_ | refine blk_miss rfl ?_ | refine WC.ret ?_)
      exact ⟨(i + 1, va, vc, P2, es, c), (by show l.length - (i + 1) < l.length - i; omega), ⟨rfl, rfl, rfl, rfl, rfl, rfl, rfl, congrArg (fun z => some (Value.int .i64 z)) step, rfl⟩, by omega, by rw [hsucc, hpr], ⟨hX2.head, hX2.small, by omega⟩, hM2, hp2.tail⟩
  · have hi : l.length ≤ i := by have := of_decide_eq_false hc; omega
    have hPf : P = prefM l := by rw [hP, List.take_of_length_le hi]; rfl
    have hPl := hX.len
    have hp2 : Hp w w1 [Xa xb (.slice none 0 0), Rn (.slice none 0 0) [], Mr [], Rs (.slice va P.length vc) P, Mp mb es c] := ((hp1.nilrow 61 1).none').pick [4, 1, 0, 2, 3] (by decide)
    have hh : (fnd P [] 0).isSome = true := by rw [hX.head]; rfl
    clear hp1 hP
    repeat (first | refine WC.seq ?_ | refine WC.reg ?_ | refine WL.pure rfl rfl rfl ?_ | refine WL.nil ?_ | refine WC.skip ?_ | refine WC.block ?_ | refine WC.condT rfl ?_ | refine WC.condF rfl ?_ | refine WL.off rfl rfl rfl ?_ | refine WL.off0 rfl rfl ?_ | refine WC.exit ?_ | refine blk_hit ?_ | refine blk_miss rfl ?_ | refine WC.ret ?_)
    refine WC.loop (Nat × Option Addr × Nat × Rws) (fun (q, _) => [(0, .slice a l.length cap), (1, .int .i64 (n : Nat)), (5, .pointer (some ⟨xb, 0, none⟩)), (6, .map (some mb)), (61, .slice va P.length vc), (62, .int .i64 (P.length : Nat)), (63, .int .i64 (q : Nat))])
      (fun (q, na, nc, R) w' => q ≤ P.length ∧ R.length = q ∧ R.map (·.2) = (P.take q).map (rowM l P n) ∧ Hp w w' [Xa xb (.slice na R.length nc), Rn (.slice na R.length nc) R, Mr R, Rs (.slice va P.length vc) P, Mp mb es c]) (fun (q, _) => P.length - q) (0, none, 0, []) ⟨rfl, rfl, rfl, rfl, rfl, rfl, rfl, rfl⟩
      ⟨Nat.zero_le _, rfl, rfl, hp2⟩ ?_
    clear hp2
    rintro ⟨q, na, nc, R⟩ w2 ⟨hq, hRl, hRm, hp2⟩
    repeat (first | refine WC.seq ?_ | refine WC.reg ?_ | refine WL.pure rfl rfl rfl ?_ | refine WL.nil ?_ | refine WC.skip ?_ | refine WC.block ?_ | refine WC.condT rfl ?_ | refine WC.condF rfl ?_ | refine WL.off rfl rfl rfl ?_ | refine WL.off0 rfl rfl ?_ | refine WC.exit ?_ | refine blk_hit ?_ | refine blk_miss rfl ?_ | refine WC.ret ?_)
    refine WC.cond rfl (fun hc1 => ?_) (fun hc1 => ?_)
    · have hq : q < P.length := by have := of_decide_eq_true hc1; omega
      have step := wrap_succ hq (by omega)
      have hsl := hX.small P[q] (List.getElem_mem hq)
      repeat (first | refine WC.seq ?_ | refine WC.reg ?_ | refine WL.pure rfl rfl rfl ?_ | refine WL.nil ?_ | refine WC.skip ?_ | refine WC.block ?_ | refine WC.condT rfl ?_ | refine WC.condF rfl ?_ | refine WL.off rfl rfl rfl ?_ | refine WL.off0 rfl rfl ?_ | refine WC.exit ?_ | refine blk_hit ?_ | refine blk_miss rfl ?_ | refine WC.ret ?_)
      refine WL.ixload rfl (fun _ => rfl) rfl rfl rfl rfl rfl rfl rfl hq rfl rfl (Sl.of_row (hp2.at 3 rfl)) (v := st P[q]) (by rw [List.getElem?_map, List.getElem?_eq_getElem hq]; rfl) ?_
      intro pp
      have htk : (P.take (q + 1)).map (rowM l P n) = (P.take q).map (rowM l P n) ++ [rowM l P n P[q]] := by rw [List.take_succ_eq_append_getElem hq, List.map_append]; rfl
      generalize P[q] = s at *
      repeat (first | refine WC.seq ?_ | refine WC.reg ?_ | refine WL.pure rfl rfl rfl ?_ | refine WL.nil ?_ | refine WC.skip ?_ | refine WC.block ?_ | refine WC.condT rfl ?_ | refine WC.condF rfl ?_ | refine WL.off rfl rfl rfl ?_ | refine WL.off0 rfl rfl ?_ | refine WC.exit ?_ | refine blk_hit ?_ | refine blk_miss rfl ?_ | refine WC.ret ?_)
      refine WL.make rfl rfl rfl rfl rfl rfl rfl rfl (by show 8 * n ≤ _; omega) (by unfold maxLen; omega) ?_
      intro b15 w3 hb15
      have hp3 : Hp w w3 [.blk b15 (.cells (zs (List.replicate n 0)).toArray 3 (0, 0)), Xa xb (.slice na R.length nc), Rn (.slice na R.length nc) R, Mr R, Rs (.slice va P.length vc) P, Mp mb es c] := by
        have := hp2.new hb15
        unfold zs
        rw [List.map_replicate]
        exact this
      repeat (first | refine WC.seq ?_ | refine WC.reg ?_ | refine WL.pure rfl rfl rfl ?_ | refine WL.nil ?_ | refine WC.skip ?_ | refine WC.block ?_ | refine WC.condT rfl ?_ | refine WC.condF rfl ?_ | refine WL.off rfl rfl rfl ?_ | refine WL.off0 rfl rfl ?_ | refine WC.exit ?_ | refine blk_hit ?_ | refine blk_miss rfl ?_ | refine WC.ret ?_)
      refine WC.loop (Nat × List Int) (fun (k, _) => [(0, .slice a l.length cap), (1, .int .i64 (n : Nat)), (5, .pointer (some ⟨xb, 0, none⟩)), (6, .map (some mb)), (14, st s), (15, .slice (some ⟨b15, 0, none⟩) n n), (61, .slice va P.length vc), (62, .int .i64 (P.length : Nat)), (63, .int .i64 (q : Nat)), (69, .int .i64 (n : Nat)), (70, .int .i64 (k : Nat))])
        (fun (k, row) w' => k ≤ n ∧ row.length = n ∧ (∀ j, j < k → row[j]? = some (stepM l P (s ++ [UInt8.ofNat (97 + j)]))) ∧ Hp w w' [.blk b15 (.cells (zs row).toArray 3 (0, 0)), Xa xb (.slice na R.length nc), Rn (.slice na R.length nc) R, Mr R, Rs (.slice va P.length vc) P, Mp mb es c]) (fun (k, _) => n - k) (0, List.replicate n 0) ⟨rfl, rfl, rfl, rfl, rfl, rfl, rfl, rfl, rfl, rfl, rfl, rfl⟩
        ⟨Nat.zero_le _, List.length_replicate, fun j hj => absurd hj (Nat.not_lt_zero j), hp3⟩ ?_
      clear hp3 hp2 hb15
      rintro ⟨k, row⟩ w4 ⟨hk, hrl, hrow, hp4⟩
      repeat (first | refine WC.seq ?_ | refine WC.reg ?_ | refine WL.pure rfl rfl rfl ?_ | refine WL.nil ?_ | refine WC.skip ?_ | refine WC.block ?_ | refine WC.condT rfl ?_ | refine WC.condF rfl ?_ | refine WL.off rfl rfl rfl ?_ | refine WL.off0 rfl rfl ?_ | refine WC.exit ?_ | refine blk_hit ?_ | refine blk_miss rfl ?_ | refine WC.ret ?_)
      refine WC.cond rfl (fun hc2 => ?_) (fun hc2 => ?_)
      · have hk : k < n := by have := of_decide_eq_true hc2; omega
        have stepk := wrap_succ hk (by omega)
        repeat (first | refine WC.seq ?_ | refine WC.reg ?_ | refine WL.pure rfl rfl rfl ?_ | refine WL.nil ?_ | refine WC.skip ?_ | refine WC.block ?_ | refine WC.condT rfl ?_ | refine WC.condF rfl ?_ | refine WL.off rfl rfl rfl ?_ | refine WL.off0 rfl rfl ?_ | refine WC.exit ?_ | refine blk_hit ?_ | refine blk_miss rfl ?_ | refine WC.ret ?_)
        refine WL.known (d := 80) (congrArg (fun z => some (Value.int .u8 z)) (byte_val (c := k) (by omega))) ?_
        generalize hu : UInt8.ofNat (97 + k) = ub
        refine WL.buildS (cs := [.int .u8 (ub.toNat : Nat)]) rfl rfl rfl rfl rfl rfl rfl rfl rfl ?_
        intro b81 w5 hb81
        have hp5 := hp4.new hb81
        refine WL.convB (u := ub) rfl rfl rfl rfl rfl rfl rfl (cell_of_obj (hp5.obj 0 rfl) rfl) ?_
        refine WL.sCat rfl rfl rfl rfl (by show s.length + 1 ≤ _; omega) ?_
        refine WL.call rfl rfl rfl rfl rfl ent80 (step_any a cap l mb es c P (s ++ [ub]) (by omega) (by rw [List.length_append]; show s.length + 1 ≤ _; omega) hh w5 (hs.hp hp5) (hp5.obj 6 rfl) hM) ?_
        rintro _ w6 ⟨rfl, hp6⟩
        have hp6 := hp5.comb hp6
        refine WL.ix rfl rfl rfl rfl rfl (j := k) (by omega) rfl ?_
        refine WL.store rfl rfl rfl rfl rfl rfl (hp6.obj 1 rfl) (by rw [List.size_toArray, zs_len]; show 0 + k * 1 < _; omega) (fun w7 hw7 => ?_)
        rw [show 0 + k * ti3.size = k by show 0 + k * 1 = k; omega, zs_set] at hw7
        have hp7 := (hp6.set 1 rfl rfl hw7).tail
        repeat (first | refine WC.seq ?_ | refine WC.reg ?_ | refine WL.pure rfl rfl rfl ?_ | refine WL.nil ?_ | refine WC.skip ?_ | refine WC.block ?_ | refine WC.condT rfl ?_ | refine WC.condF rfl ?_ | refine WL.off rfl rfl rfl ?_ | refine WL.off0 rfl rfl ?_ | refine WC.exit ?_ | refine blk_hit ?_ | refine blk_miss rfl ?_ | refine WC.ret ?_)
        refine ⟨(k + 1, row.set k (stepM l P (s ++ [ub]))), (by show n - (k + 1) < n - k; omega), ⟨rfl, rfl, rfl, rfl, rfl, rfl, rfl, rfl, rfl, rfl, congrArg (fun z => some (Value.int .i64 z)) stepk, rfl⟩, by omega, by rw [List.length_set]; exact hrl, fun j hj => ?_, hp7⟩
        by_cases hjk : j = k
        · subst hjk
          rw [List.getElem?_set_self (by omega), hu]
        · rw [List.getElem?_set_ne (Ne.symm hjk)]
          exact hrow j (by omega)
      · have hk : n ≤ k := by have := of_decide_eq_false hc2; omega
        have hre : row = rowM l P n s := by
          apply List.ext_getElem?
          intro j
          unfold rowM
          by_cases hj : j < n
          · rw [hrow j (by omega), List.getElem?_map, List.getElem?_range hj]; rfl
          · rw [List.getElem?_eq_none (by omega), List.getElem?_eq_none (by simp; omega)]
        repeat (first | refine WC.seq ?_ | refine WC.reg ?_ | refine WL.pure rfl rfl rfl ?_ | refine WL.nil ?_ | refine WC.skip ?_ | refine WC.block ?_ | refine WC.condT rfl ?_ | refine WC.condF rfl ?_ | refine WL.off rfl rfl rfl ?_ | refine WL.off0 rfl rfl ?_ | refine WC.exit ?_ | refine blk_hit ?_ | refine blk_miss rfl ?_ | refine WC.ret ?_)
        refine WL.nilC rfl rfl rfl ?_
        repeat (first | refine WC.seq ?_ | refine WC.reg ?_ | refine WL.pure rfl rfl rfl ?_ | refine WL.nil ?_ | refine WC.skip ?_ | refine WC.block ?_ | refine WC.condT rfl ?_ | refine WC.condF rfl ?_ | refine WL.off rfl rfl rfl ?_ | refine WL.off0 rfl rfl ?_ | refine WC.exit ?_ | refine blk_hit ?_ | refine blk_miss rfl ?_ | refine WC.ret ?_)
        refine WL.loadB rfl rfl rfl rfl rfl (hp4.obj 1 rfl) (j := 0) rfl ?_
        repeat (first | refine WC.seq ?_ | refine WC.reg ?_ | refine WL.pure rfl rfl rfl ?_ | refine WL.nil ?_ | refine WC.skip ?_ | refine WC.block ?_ | refine WC.condT rfl ?_ | refine WC.condF rfl ?_ | refine WL.off rfl rfl rfl ?_ | refine WL.off0 rfl rfl ?_ | refine WC.exit ?_ | refine blk_hit ?_ | refine blk_miss rfl ?_ | refine WC.ret ?_)
        refine WL.buildS (cs := [.slice (some ⟨b15, 0, none⟩) n n]) rfl rfl rfl rfl rfl rfl rfl rfl rfl ?_
        intro b93 w5 hb93
        have hp5 := hp4.new hb93
        have e1 : rwV [(b15, row)] = [.slice (some ⟨b15, 0, none⟩) n n] := by simp [rwV, hrl]
        refine WL.append 3 hp5 rfl rfl rfl rfl rfl (by decide) rfl rfl rfl (news := rwV [(b15, row)]) (by rw [e1]; exact Sl.of_obj (hp5.obj 0 rfl) (fun q u hq => by simpa using hq)) rfl (rwV_cells _) (by unfold maxLen; omega) (by show (R.length + 1) * 24 ≤ _; omega) ?_
        intro ra rc1 w6 hp6 hg6
        have e2 : (R ++ [(b15, row)]).length = R.length + 1 := by rw [List.length_append]; rfl
        repeat (first | refine WC.seq ?_ | refine WC.reg ?_ | refine WL.pure rfl rfl rfl ?_ | refine WL.nil ?_ | refine WC.skip ?_ | refine WC.block ?_ | refine WC.condT rfl ?_ | refine WC.condF rfl ?_ | refine WL.off rfl rfl rfl ?_ | refine WL.off0 rfl rfl ?_ | refine WC.exit ?_ | refine blk_hit ?_ | refine blk_miss rfl ?_ | refine WC.ret ?_)
        refine WL.nilC rfl rfl rfl ?_
        repeat (first | refine WC.seq ?_ | refine WC.reg ?_ | refine WL.pure rfl rfl rfl ?_ | refine WL.nil ?_ | refine WC.skip ?_ | refine WC.block ?_ | refine WC.condT rfl ?_ | refine WC.condF rfl ?_ | refine WL.off rfl rfl rfl ?_ | refine WL.off0 rfl rfl ?_ | refine WC.exit ?_ | refine blk_hit ?_ | refine blk_miss rfl ?_ | refine WC.ret ?_)
        refine WL.store rfl rfl rfl rfl rfl rfl (hp6.obj 2 rfl) (by show 0 < 1; omega) (fun w7 hw7 => ?_)
        have hp7 := hp6.set 2 rfl rfl hw7
        have hp8 : Hp w w7 [.blk b15 (.cells (zs row).toArray 3 (0, 0)), Mr R, Xa xb (.slice ra (R.length + 1) rc1), .row 61 1 (.slice ra (R.length + 1) rc1) (R.length + 1) (rwV R ++ rwV [(b15, row)]), Rs (.slice va P.length vc) P, Mp mb es c] := hp7.pick [1, 4, 2, 3, 5, 6] (by decide)
        have hp9 := hp8.join.pick [1, 2, 0, 3, 4] (by decide)
        repeat (first | refine WC.seq ?_ | refine WC.reg ?_ | refine WL.pure rfl rfl rfl ?_ | refine WL.nil ?_ | refine WC.skip ?_ | refine WC.block ?_ | refine WC.condT rfl ?_ | refine WC.condF rfl ?_ | refine WL.off rfl rfl rfl ?_ | refine WL.off0 rfl rfl ?_ | refine WC.exit ?_ | refine blk_hit ?_ | refine blk_miss rfl ?_ | refine WC.ret ?_)
        refine ⟨(q + 1, ra, rc1, R ++ [(b15, row)]), (by show P.length - (q + 1) < P.length - q; omega), ⟨rfl, rfl, rfl, rfl, rfl, rfl, congrArg (fun z => some (Value.int .i64 z)) step, rfl⟩, by omega, by rw [e2, hRl], by rw [List.map_append, hRm, htk, ← hre]; rfl, ?_⟩
        show Hp w w7 [Xa _ _, Rn _ _, Mr _, _, _]
        have e3 : rwV (R ++ [(b15, row)]) = rwV R ++ rwV [(b15, row)] := by unfold rwV; rw [List.map_append]
        have e4 : (R ++ [(b15, row)]).reverse.map rwB = rwB (b15, row) :: R.reverse.map rwB := by rw [List.reverse_append]; rfl
        unfold Rn Mr
        rw [e2, e3, e4]
        exact hp9
    · have hq : P.length ≤ q := by have := of_decide_eq_false hc1; omega
      rw [List.take_of_length_le hq] at hRm
      repeat (first | refine WC.seq ?_ | refine WC.reg ?_ | refine WL.pure rfl rfl rfl ?_ | refine WL.nil ?_ | refine WC.skip ?_ | refine WC.block ?_ | refine WC.condT rfl ?_ | refine WC.condF rfl ?_ | refine WL.off rfl rfl rfl ?_ | refine WL.off0 rfl rfl ?_ | refine WC.exit ?_ | refine blk_hit ?_ | refine blk_miss rfl ?_ | refine WC.ret ?_)
      refine Res.one rfl rfl rfl ⟨xb, R, rfl, by rw [hRm, hPf]; rfl, ⟨⟨na, nc, hp2.obj 0 rfl, Sl.of_row (hp2.at 1 rfl)⟩, fun x hx => ?_⟩, hp2.nil'⟩
      have hsat := (hp2.at 2 rfl).2 x.1 (.cells (zs x.2).toArray 3 (0, 0)) (List.mem_map.2 ⟨x, List.mem_reverse.2 hx, rfl⟩)
      exact Sl.of_obj hsat.2 (fun j u hu => by simpa using hu)
end Go.Proofs.YtoghnhbjdnjghaaGreat
