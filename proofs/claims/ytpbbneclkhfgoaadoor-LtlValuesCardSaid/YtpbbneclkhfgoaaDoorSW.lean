/- W, tenth part: strings, as lists of bytes. -/
import Derived.Test.YtpbbneclkhfgoaaDoorMW
import Derived.Laws.DeepStrings4
import Derived.Laws.Concat
import Derived.Laws.BytesString
import Derived.Laws.StructEq
import Derived.Lib.Strings
import Derived.MapKept
set_option linter.unusedSectionVars false
namespace Go.W
open Go.RowKit

abbrev Str := List UInt8
def sb (l : Str) : ByteArray := ⟨l.toArray⟩
def st (l : Str) : Value := .string (sb l)
theorem sb_size (l : Str) : (sb l).size = l.length := rfl
theorem sb_toList (l : Str) : (sb l).toList = l := ByteArray.toList_mk l
theorem sb_ex (s : ByteArray) : ∃ l, s = sb l := ⟨s.data.toList, (Lib.mk_data s).symm⟩
theorem sb_add (a b : Str) : sb a ++ sb b = sb (a ++ b) := ByteArray.mk_append_mk a b
theorem sb_extract (l : Str) (a b : Nat) : (sb l).extract a b = sb ((l.drop a).take (b - a)) := ByteArray.extract_mk l a b
theorem sb_inj {a b : Str} (h : sb a = sb b) : a = b := by
  have := congrArg ByteArray.toList h
  rwa [sb_toList, sb_toList] at this
theorem st_inj {a b : Str} (h : st a = st b) : a = b := sb_inj (by simpa [st] using h)
theorem sb_beq (a b : Str) : (sb a == sb b) = decide (a = b) := by
  rw [Bool.eq_iff_iff, decide_eq_true_eq, Go.MapKept.bytes_beq]
  exact ⟨sb_inj, fun h => by rw [h]⟩
theorem sb_get (l : Str) (m : Nat) : (sb l)[m]? = l[m]? := by
  show (ByteArray.mk l.toArray)[m]? = _
  by_cases h : m < l.length
  · have hs : m < (ByteArray.mk l.toArray).size := by show m < l.length; exact h
    rw [getElem?_pos _ m hs, List.getElem?_eq_getElem h]
    rfl
  · have hs : ¬ m < (ByteArray.mk l.toArray).size := by show ¬ m < l.length; exact h
    rw [getElem?_neg _ m hs, List.getElem?_eq_none (by omega)]

def ltS (a b : Str) : Bool := Op.bytesLess a b
def cmpS : BinOp → Str → Str → Option Bool
  | .eql, a, b => some (decide (a = b))
  | .neq, a, b => some (!decide (a = b))
  | .lss, a, b => some (ltS a b)
  | .leq, a, b => some (ltS a b || decide (a = b))
  | .gtr, a, b => some (!(ltS a b || decide (a = b)))
  | .geq, a, b => some (!ltS a b)
  | _, _, _ => none
/-- A bound of a cut, if there is one. -/
def bnd (e : Env) (dflt : Nat) : Option Operand → Option Nat
  | none => some dflt
  | some y => match opv e y with
    | some (.int _ (.ofNat m)) => some m
    | _ => none
theorem bnd_some {e : Env} {d m : Nat} {y : Operand} (h : bnd e d (some y) = some m) : ∃ k, opv e y = some (.int k (m : Nat)) := by
  simp only [bnd] at h
  split at h
  · rename_i k q hq
    simp only [Option.some.injEq] at h
    subst h
    exact ⟨k, hq⟩
  · cases h

section
variable {P : Program} [T : TT P] {e : Env} {w : World} {ty : TypeId}
theorem yCmp {op : BinOp} {t t2 : TypeId} {x y : Operand} {a b : Str} {r : Bool} (hx : opv e x = some (st a)) (hy : opv e y = some (st b)) (hr : cmpS op a b = some r) : Yv P e (.binOp op t x y t2) ty w (.bool r) w := by
  intro ρ hρ d pos aft g
  have hb : (a == b) = decide (a = b) := by rw [Bool.eq_iff_iff, decide_eq_true_eq, beq_iff_eq]
  cases op <;> simp only [cmpS] at hr <;> try (cases hr; done)
  all_goals
    simp only [Option.some.injEq] at hr
    subst hr
    simp [execOp, hρ _ _ hx, hρ _ _ hy, st, eqGuard_at_string, binOp, Op.stringOp, sb_toList, ltS, hb]
theorem yCat {t t2 : TypeId} {x y : Operand} {a b : Str} (hx : opv e x = some (st a)) (hy : opv e y = some (st b)) (hl : a.length + b.length ≤ 9223372036854775807) : Yv P e (.binOp .add t x y t2) ty w (st (a ++ b)) w := by
  intro ρ hρ d pos aft g
  have h := run_string_add_sum (P := P) w (sb a) (sb b) (by rw [sb_size, sb_size]; exact hl)
  rw [sb_add] at h
  simp [execOp, hρ _ _ hx, hρ _ _ hy, st, eqGuard_at_string, binOp, h]
theorem ySl {t : TypeId} {z : Value} {s0 b0 : Nat} {x : Operand} {lo hi : Option Operand} {l : Str} {a b : Nat} (ht : T.ti t = some ⟨.string, z, s0, b0⟩) (hx : opv e x = some (st l)) (hlo : bnd e 0 lo = some a) (hhi : bnd e l.length hi = some b) (hab : a ≤ b) (hb : b ≤ l.length) :
    Yv P e (.slice t x lo hi none) ty w (st ((l.drop a).take (b - a))) w := by
  have hu : P.underlying t = some .string := (T.ok t _ ht).k
  intro ρ hρ d pos aft g
  have key : ∀ lo' hi' : Option Value, (lo' = none ∧ a = 0 ∨ ∃ k, lo' = some (.int k (a : Nat))) → (hi' = none ∧ b = l.length ∨ ∃ k, hi' = some (.int k (b : Nat))) →
      (Instr.sliceAt t (st l) lo' hi' none).run P w = .ok (st ((l.drop a).take (b - a))) w := by
    intro lo' hi' h1 h2
    have hsz : (sb l).size = l.length := sb_size l
    have hb' : (b : Int) ≤ (l.length : Int) := by omega
    rw [run_sliceAt_string w t _ _ _ _ hu]
    rcases h1 with ⟨rfl, rfl⟩ | ⟨k, rfl⟩ <;> rcases h2 with ⟨rfl, rfl⟩ | ⟨k', rfl⟩
    · simp [st, Instr.slice, Instr.sliceBounds, run_underlying hu, hsz, sb_extract]
    · simp [st, Instr.slice, Instr.sliceBounds, Instr.sliceBound, asIntOf, run_underlying hu, hsz, sb_extract, hb']
      intro hc
      omega
    · simp [st, Instr.slice, Instr.sliceBounds, Instr.sliceBound, asIntOf, run_underlying hu, hsz, sb_extract, hab]
    · simp [st, Instr.slice, Instr.sliceBounds, Instr.sliceBound, asIntOf, run_underlying hu, hsz, sb_extract, hab, hb']
      intro hc
      omega
  have h1 : (lo.map ρ = none ∧ a = 0) ∨ ∃ k, lo.map ρ = some (.int k (a : Nat)) := by
    cases lo with
    | none => left; exact ⟨rfl, by simpa [bnd] using hlo.symm⟩
    | some y => right; obtain ⟨k, hk⟩ := bnd_some hlo; exact ⟨k, by rw [Option.map_some, hρ _ _ hk]⟩
  have h2 : (hi.map ρ = none ∧ b = l.length) ∨ ∃ k, hi.map ρ = some (.int k (b : Nat)) := by
    cases hi with
    | none => left; exact ⟨rfl, by simpa [bnd] using hhi.symm⟩
    | some y => right; obtain ⟨k, hk⟩ := bnd_some hhi; exact ⟨k, by rw [Option.map_some, hρ _ _ hk]⟩
  simp [execOp, hρ _ _ hx, key _ _ h1 h2]
theorem yAt {t : TypeId} {z : Value} {s0 b0 m : Nat} {x ix : Operand} {l : Str} {k : IntKind} (ht : T.ti t = some ⟨.string, z, s0, b0⟩) (hx : opv e x = some (st l)) (hix : opv e ix = some (.int k (m : Nat))) (hm : m < l.length) :
    Yv P e (.index t x ix) ty w (.int .u8 (l[m].toNat : Nat)) w := by
  have hu : P.underlying t = some .string := (T.ok t _ ht).k
  intro ρ hρ d pos aft g
  have hg : (sb l)[m]? = some l[m] := by rw [sb_get, List.getElem?_eq_getElem hm]
  simp [execOp, hρ _ _ hx, hρ _ _ hix, st, Instr.index, asIntOf, run_underlying hu, hg]
/-- Two structs of two strings compared. -/
theorem run_eqR {t E : TypeId} {f1 f2 : Field} (hu : P.underlying t = some (.struct #[f1, f2])) (hE : P.underlying E = some .string) (h1 : f1.type = E) (h2 : f2.type = E) (n1 : f1.name ≠ "_") (n2 : f2.name ≠ "_") (o1 : f1.offset = 0) (o2 : f2.offset = 1) (hst : P.stoodInHeld t = false) (a b c d : Str) (dep : Nat) :
    (Op.equalIn (dep + 2) t (.agg #[st a, st b]) (.agg #[st c, st d])).run P w = .ok (decide (a = c) && decide (b = d)) w := by
  have hag : (isAgg E).run P w = .ok false w := by simp [isAgg, run_underlying hE]
  have hq : ∀ x y : Str, (Op.equalIn (dep + 1) E (st x) (st y)).run P w = .ok (decide (x = y)) w := fun x y => by simp [Op.equalIn, run_underlying hE, st, sb_beq]
  rw [Op.equalIn]
  simp only [Sem.run_bind, run_underlying hu, Result.andThen_ok, run_program, hst]
  by_cases k1 : a = c
  · by_cases k2 : b = d
    · simp [part, h1, h2, n1, n2, o1, o2, hag, hq, k1, k2]
    · simp [part, h1, h2, n1, n2, o1, o2, hag, hq, k1, k2]
  · simp [part, h1, h2, n1, n2, o1, o2, hag, hq, k1]
theorem yEqR {op : BinOp} {t E t2 : TypeId} {f1 f2 : Field} {x y : Operand} (hu : P.underlying t = some (.struct #[f1, f2])) (hE : P.underlying E = some .string) (h1 : f1.type = E) (h2 : f2.type = E) (n1 : f1.name ≠ "_") (n2 : f2.name ≠ "_") (o1 : f1.offset = 0) (o2 : f2.offset = 1) (hst : P.stoodInHeld t = false) (hm : P.eqGuardType P.depth t = false)
    {a b c d : Str} (hx : opv e x = some (.agg #[st a, st b])) (hy : opv e y = some (.agg #[st c, st d])) {q : Bool} (hq : (op = .eql ∧ q = (decide (a = c) && decide (b = d))) ∨ (op = .neq ∧ q = !(decide (a = c) && decide (b = d)))) :
    Yv P e (.binOp op t x y t2) ty w (.bool q) w := by
  intro ρ hρ dd pos aft g
  have k1 := run_eqGuard_agg (w := w) op t x y #[st a, st b] #[st c, st d] hm
  have k2 := run_eqR (w := w) hu hE h1 h2 n1 n2 o1 o2 hst a b c d 9998
  rcases hq with ⟨rfl, rfl⟩ | ⟨rfl, rfl⟩
  · simp only [execOp, hρ _ _ hx, hρ _ _ hy, Sem.run_bind, k1, Result.andThen_ok, run_eql_struct, k2]
    rfl
  · simp only [execOp, hρ _ _ hx, hρ _ _ hy, Sem.run_bind, k1, Result.andThen_ok, run_neq_struct, k2]
    rfl
/-- Two arrays of two strings compared. -/
theorem run_eqA {t E : TypeId} (hu : P.underlying t = some (.array 2 E)) (hE : P.underlying E = some .string) (hs : (sizeOf E).run P w = .ok 1 w) (a b c d : Str) (dep : Nat) :
    (Op.equalIn (dep + 2) t (.agg #[st a, st b]) (.agg #[st c, st d])).run P w = .ok (decide (a = c) && decide (b = d)) w := by
  have hag : (isAgg E).run P w = .ok false w := by simp [isAgg, run_underlying hE]
  have hq : ∀ x y : Str, (Op.equalIn (dep + 1) E (st x) (st y)).run P w = .ok (decide (x = y)) w := fun x y => by simp [Op.equalIn, run_underlying hE, st, sb_beq]
  rw [Op.equalIn]
  simp only [Sem.run_bind, run_underlying hu, Result.andThen_ok, hs]
  by_cases h1 : a = c
  · by_cases h2 : b = d
    · simp [List.range', part, hag, hq, h1, h2]
    · simp [List.range', part, hag, hq, h1, h2]
  · simp [List.range', part, hag, hq, h1]
theorem yEqA {op : BinOp} {t E t2 : TypeId} {z z2 : Value} {s0 b0 b2 : Nat} {x y : Operand} (ht : T.ti t = some ⟨.array 2 E, z, s0, b0⟩) (hE : T.ti E = some ⟨.string, z2, 1, b2⟩) (hm : P.eqGuardType P.depth t = false)
    {a b c d : Str} (hx : opv e x = some (.agg #[st a, st b])) (hy : opv e y = some (.agg #[st c, st d])) {q : Bool} (hq : (op = .eql ∧ q = (decide (a = c) && decide (b = d))) ∨ (op = .neq ∧ q = !(decide (a = c) && decide (b = d)))) :
    Yv P e (.binOp op t x y t2) ty w (.bool q) w := by
  have hu : P.underlying t = some (.array 2 E) := (T.ok t _ ht).k
  have hi : P.underlying E = some .string := (T.ok E _ hE).k
  have hs := (T.ok E _ hE).sizeOf w
  intro ρ hρ dd pos aft g
  have k1 := run_eqGuard_agg (w := w) op t x y #[st a, st b] #[st c, st d] hm
  have k2 := run_eqA (w := w) hu hi hs a b c d 9998
  rcases hq with ⟨rfl, rfl⟩ | ⟨rfl, rfl⟩
  · simp only [execOp, hρ _ _ hx, hρ _ _ hy, Sem.run_bind, k1, Result.andThen_ok, run_eql_struct, k2]
    rfl
  · simp only [execOp, hρ _ _ hx, hρ _ _ hy, Sem.run_bind, k1, Result.andThen_ok, run_neq_struct, k2]
    rfl
end

section
variable {P : Program} [T : TT P] {ro : Option Nat} {n : Nat} {l0 rest : List Oper} {N : Nor} {Z : Pan} {e : Env} {w : World} {ty : TypeId} {pos : String} {aft : Array Edge} {g : Option (Nat × Bool)}
theorem WL.sCmp {d : Nat} {op : BinOp} {t t2 : TypeId} {x y : Operand} {a b : Str} {r : Bool} (hg : grd l0 e g = some true) (hd : Nat.blt d n = true) (hx : opv e x = some (st a)) (hy : opv e y = some (st b)) (hr : cmpS op a b = some r)
    (h : WL P ro n l0 N Z rest ((d, .bool r) :: e) w) : WL P ro n l0 N Z (⟨some d, .binOp op t x y t2, ty, pos, aft, g⟩ :: rest) e w := WL.val hg rfl hd (yCmp hx hy hr) h
theorem WL.sCat {d : Nat} {t t2 : TypeId} {x y : Operand} {a b : Str} (hg : grd l0 e g = some true) (hd : Nat.blt d n = true) (hx : opv e x = some (st a)) (hy : opv e y = some (st b)) (hl : a.length + b.length ≤ 9223372036854775807)
    (h : WL P ro n l0 N Z rest ((d, st (a ++ b)) :: e) w) : WL P ro n l0 N Z (⟨some d, .binOp .add t x y t2, ty, pos, aft, g⟩ :: rest) e w := WL.val hg rfl hd (yCat hx hy hl) h
theorem WL.sSl {d : Nat} {t : TypeId} {z : Value} {s0 b0 : Nat} {x : Operand} {lo hi : Option Operand} {l : Str} {a b : Nat} (hg : grd l0 e g = some true) (hd : Nat.blt d n = true) (ht : T.ti t = some ⟨.string, z, s0, b0⟩) (hx : opv e x = some (st l)) (hlo : bnd e 0 lo = some a) (hhi : bnd e l.length hi = some b) (hab : a ≤ b) (hb : b ≤ l.length)
    (h : WL P ro n l0 N Z rest ((d, st ((l.drop a).take (b - a))) :: e) w) : WL P ro n l0 N Z (⟨some d, .slice t x lo hi none, ty, pos, aft, g⟩ :: rest) e w := WL.val hg rfl hd (ySl ht hx hlo hhi hab hb) h
theorem WL.sAt {d : Nat} {t : TypeId} {z : Value} {s0 b0 m : Nat} {x ix : Operand} {l : Str} {k : IntKind} (hg : grd l0 e g = some true) (hd : Nat.blt d n = true) (ht : T.ti t = some ⟨.string, z, s0, b0⟩) (hx : opv e x = some (st l)) (hix : opv e ix = some (.int k (m : Nat))) (hm : m < l.length)
    (h : WL P ro n l0 N Z rest ((d, .int .u8 (l[m].toNat : Nat)) :: e) w) : WL P ro n l0 N Z (⟨some d, .index t x ix, ty, pos, aft, g⟩ :: rest) e w := WL.val hg rfl hd (yAt ht hx hix hm) h
theorem WL.sLen {d : Nat} {t : TypeId} {z : Value} {s0 b0 : Nat} {x : Operand} {l : Str} (hg : grd l0 e g = some true) (hd : Nat.blt d n = true) (ht : T.ti t = some ⟨.string, z, s0, b0⟩) (hx : opv e x = some (st l))
    (h : WL P ro n l0 N Z rest ((d, .int .i64 (l.length : Nat)) :: e) w) : WL P ro n l0 N Z (⟨some d, .call ⟨.builtin .len, #[x], #[t]⟩, ty, pos, aft, g⟩ :: rest) e w :=
  WL.pure hg (by simp only [pureV, callV, hx, st, lenV, ht, sb_size]) hd h
end

/-! In draws. -/
section
variable {P : Program} [T : TT P] {n : Nat} {l0 rest : List Oper} {C : World → Prop} {M : Env → Prop} {e : Env} {ty : TypeId} {pos : String} {aft : Array Edge} {g : Option (Nat × Bool)}
theorem WQ.sCmp {d : Nat} {op : BinOp} {t t2 : TypeId} {x y : Operand} {a b : Str} {r : Bool} (hg : grd l0 e g = some true) (hd : Nat.blt d n = true) (hx : opv e x = some (st a)) (hy : opv e y = some (st b)) (hr : cmpS op a b = some r)
    (h : WQ P n l0 C M rest ((d, .bool r) :: e)) : WQ P n l0 C M (⟨some d, .binOp op t x y t2, ty, pos, aft, g⟩ :: rest) e := WQ.val hg hd (fun _ _ => yCmp hx hy hr) h
theorem WQ.sCat {d : Nat} {t t2 : TypeId} {x y : Operand} {a b : Str} (hg : grd l0 e g = some true) (hd : Nat.blt d n = true) (hx : opv e x = some (st a)) (hy : opv e y = some (st b)) (hl : a.length + b.length ≤ 9223372036854775807)
    (h : WQ P n l0 C M rest ((d, st (a ++ b)) :: e)) : WQ P n l0 C M (⟨some d, .binOp .add t x y t2, ty, pos, aft, g⟩ :: rest) e := WQ.val hg hd (fun _ _ => yCat hx hy hl) h
theorem WQ.sSl {d : Nat} {t : TypeId} {z : Value} {s0 b0 : Nat} {x : Operand} {lo hi : Option Operand} {l : Str} {a b : Nat} (hg : grd l0 e g = some true) (hd : Nat.blt d n = true) (ht : T.ti t = some ⟨.string, z, s0, b0⟩) (hx : opv e x = some (st l)) (hlo : bnd e 0 lo = some a) (hhi : bnd e l.length hi = some b) (hab : a ≤ b) (hb : b ≤ l.length)
    (h : WQ P n l0 C M rest ((d, st ((l.drop a).take (b - a))) :: e)) : WQ P n l0 C M (⟨some d, .slice t x lo hi none, ty, pos, aft, g⟩ :: rest) e := WQ.val hg hd (fun _ _ => ySl ht hx hlo hhi hab hb) h
theorem WQ.sAt {d : Nat} {t : TypeId} {z : Value} {s0 b0 m : Nat} {x ix : Operand} {l : Str} {k : IntKind} (hg : grd l0 e g = some true) (hd : Nat.blt d n = true) (ht : T.ti t = some ⟨.string, z, s0, b0⟩) (hx : opv e x = some (st l)) (hix : opv e ix = some (.int k (m : Nat))) (hm : m < l.length)
    (h : WQ P n l0 C M rest ((d, .int .u8 (l[m].toNat : Nat)) :: e)) : WQ P n l0 C M (⟨some d, .index t x ix, ty, pos, aft, g⟩ :: rest) e := WQ.val hg hd (fun _ _ => yAt ht hx hix hm) h
theorem WQ.sEqR {d : Nat} {op : BinOp} {t E t2 : TypeId} {f1 f2 : Field} {x y : Operand} (hg : grd l0 e g = some true) (hd : Nat.blt d n = true) (hu : P.underlying t = some (.struct #[f1, f2])) (hE : P.underlying E = some .string) (h1 : f1.type = E) (h2 : f2.type = E) (n1 : f1.name ≠ "_") (n2 : f2.name ≠ "_") (o1 : f1.offset = 0) (o2 : f2.offset = 1) (hst : P.stoodInHeld t = false) (hm : P.eqGuardType P.depth t = false)
    {a b c q : Str} (hx : opv e x = some (.agg #[st a, st b])) (hy : opv e y = some (.agg #[st c, st q])) {r : Bool} (hq : (op = .eql ∧ r = (decide (a = c) && decide (b = q))) ∨ (op = .neq ∧ r = !(decide (a = c) && decide (b = q))))
    (h : WQ P n l0 C M rest ((d, .bool r) :: e)) : WQ P n l0 C M (⟨some d, .binOp op t x y t2, ty, pos, aft, g⟩ :: rest) e := WQ.val hg hd (fun _ _ => yEqR hu hE h1 h2 n1 n2 o1 o2 hst hm hx hy hq) h
end
section
variable {P : Program} [T : TT P] {n : Nat} {l0 : List Oper} {S : World → Prop} {N : Nor} {Z : Pan} {e : Env} {w : World} {fuel : Nat} {listed : Array Bool}
theorem WH.sSl {d : Nat} {t ty : TypeId} {pos : String} {aft : Array Edge} {g : Option (Nat × Bool)} {z : Value} {s0 b0 : Nat} {x : Operand} {lo hi : Option Operand} {l : Str} {a b : Nat} (i : Nat) (hs : Region.noSelect l0.toArray = true) (hi' : nth l0 i = some ⟨some d, .slice t x lo hi none, ty, pos, aft, g⟩)
    (hB : takeB l0.toArray listed i = true) (hg : grd l0 e g = some true) (hd : Nat.blt d n = true) (ht : T.ti t = some ⟨.string, z, s0, b0⟩) (hx : opv e x = some (st l)) (hlo : bnd e 0 lo = some a) (hhi : bnd e l.length hi = some b) (hab : a ≤ b) (hb : b ≤ l.length) (hS : S w)
    (h : WH P n l0 S N Z fuel (listed.setIfInBounds i true) ((d, st ((l.drop a).take (b - a))) :: e) w) : WH P n l0 S N Z (fuel + 1) listed e w :=
  WH.take i hs hi' hB hg hd (fun _ _ => ySl ht hx hlo hhi hab hb) hS h
theorem WH.sCat {d : Nat} {t t2 ty : TypeId} {pos : String} {aft : Array Edge} {g : Option (Nat × Bool)} {x y : Operand} {a b : Str} (i : Nat) (hs : Region.noSelect l0.toArray = true) (hi' : nth l0 i = some ⟨some d, .binOp .add t x y t2, ty, pos, aft, g⟩)
    (hB : takeB l0.toArray listed i = true) (hg : grd l0 e g = some true) (hd : Nat.blt d n = true) (hx : opv e x = some (st a)) (hy : opv e y = some (st b)) (hl : a.length + b.length ≤ 9223372036854775807) (hS : S w)
    (h : WH P n l0 S N Z fuel (listed.setIfInBounds i true) ((d, st (a ++ b)) :: e) w) : WH P n l0 S N Z (fuel + 1) listed e w :=
  WH.take i hs hi' hB hg hd (fun _ _ => yCat hx hy hl) hS h
end
section
variable {P : Program} {fn : Func} {R : Value → World → Prop} {e : Env} {w : World}
/-- Results of which the second lies in a block. -/
theorem Res.tct [T : TT P] {t t2 t3 b : Nat} {v v3 : Value} {ty ty2 : TypeId} {i : TI} {cs : Array Value} {fr : Nat × Nat} (hm : marks e = []) (hr : fn.results = #[.tmp t, .cell t2 ty, .tmp t3]) (ht : T.ti ty = some i) (h1 : isOne i.k = false) (hs : cs.size = i.size)
    (hv1 : look e t = some v) (hv : look e t2 = some (.pointer (some ⟨b, 0, none⟩))) (hv3 : look e t3 = some v3) (hh : w.heap[b]? = some (.cells cs ty2 fr)) (h : R (.tuple #[v, .agg cs, v3]) w) : Res P fn R e w := by
  refine ⟨hm, _, fun tm htm => ?_, h⟩
  have hag : i.k.isAgg = true := by cases hk2 : i.k <;> rw [hk2] at h1 <;> first | rfl | (simp [isOne] at h1)
  have hagg := (T.ok ty i ht).isAgg w
  rw [hag] at hagg
  have hsz := (T.ok ty i ht).sizeOf w
  rw [← hs] at hsz
  have hc := run_loadCells_list (P := P) w ⟨b, 0, none⟩ cs.toList (fun j v hj => by rw [Addr.add_lit, Nat.zero_add]; exact cell_of_obj hh (by simpa using hj))
  simp only [Array.length_toList] at hc
  have k1 := htm t _ hv1
  have k2 := htm t2 _ hv
  have k3 := htm t3 _ hv3
  rw [Array.getD_eq_getD_getElem?] at k1 k2 k3
  simp [results, hr, k1, k2, k3, asAddr, loadVar, hagg, hsz, hc]
end

/-! A pointer that is not nil. -/
theorem yNil {P : Program} {e : Env} {w : World} {ty : TypeId} {x : Operand} {p : Addr} (hx : opv e x = some (.pointer (some p))) : Yv P e (.nilCheck x) ty w (.pointer (some p)) w := by
  intro ρ hρ d pos aft g
  simp [execOp, hρ _ _ hx]
section
variable {P : Program} {ro : Option Nat} {n : Nat} {l0 rest : List Oper} {N : Nor} {Z : Pan} {e : Env} {w : World} {ty : TypeId} {pos : String} {aft : Array Edge} {g : Option (Nat × Bool)}
theorem WL.nilC {d : Nat} {x : Operand} {p : Addr} (hg : grd l0 e g = some true) (hd : Nat.blt d n = true) (hx : opv e x = some (.pointer (some p)))
    (h : WL P ro n l0 N Z rest ((d, .pointer (some p)) :: e) w) : WL P ro n l0 N Z (⟨some d, .nilCheck x, ty, pos, aft, g⟩ :: rest) e w := WL.val hg rfl hd (yNil hx) h
end
section
variable {P : Program} [T : TT P] {n : Nat} {l0 rest : List Oper} {C : World → Prop} {M : Env → Prop} {e : Env} {ty : TypeId} {pos : String} {aft : Array Edge} {g : Option (Nat × Bool)}
theorem WQ.nilC {d : Nat} {x : Operand} {p : Addr} (hg : grd l0 e g = some true) (hd : Nat.blt d n = true) (hx : opv e x = some (.pointer (some p)))
    (h : WQ P n l0 C M rest ((d, .pointer (some p)) :: e)) : WQ P n l0 C M (⟨some d, .nilCheck x, ty, pos, aft, g⟩ :: rest) e := WQ.val hg hd (fun _ _ => yNil hx) h
end
section
variable {P : Program} [T : TT P] {n : Nat} {l0 : List Oper} {S : World → Prop} {N : Nor} {Z : Pan} {e : Env} {w : World} {fuel : Nat} {listed : Array Bool}
theorem WH.nilC {d : Nat} {ty : TypeId} {pos : String} {aft : Array Edge} {g : Option (Nat × Bool)} {x : Operand} {p : Addr} (i : Nat) (hs : Region.noSelect l0.toArray = true) (hi' : nth l0 i = some ⟨some d, .nilCheck x, ty, pos, aft, g⟩)
    (hB : takeB l0.toArray listed i = true) (hg : grd l0 e g = some true) (hd : Nat.blt d n = true) (hx : opv e x = some (.pointer (some p))) (hS : S w)
    (h : WH P n l0 S N Z fuel (listed.setIfInBounds i true) ((d, .pointer (some p)) :: e) w) : WH P n l0 S N Z (fuel + 1) listed e w :=
  WH.take i hs hi' hB hg hd (fun _ _ => yNil hx) hS h
end
end Go.W
