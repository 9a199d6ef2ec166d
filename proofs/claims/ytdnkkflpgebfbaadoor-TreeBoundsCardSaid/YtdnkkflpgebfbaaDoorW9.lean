/- W, ninth part: arrays of two numbers compared; elements of slices read in quiet regions. -/
import Derived.Test.YtdnkkflpgebfbaaDoorW8
import Derived.Laws.StructEq
set_option linter.unusedVariables false
set_option linter.unusedSectionVars false
namespace Go.W
open Go.RowKit

section
variable {P : Program} [T : TT P] {w : World}
theorem run_eq2 {t E : TypeId} {z z2 : Value} {s0 b0 b2 : Nat} (ht : T.ti t = some ⟨.array 2 E, z, s0, b0⟩) (hE : T.ti E = some ⟨.int .i64, z2, 1, b2⟩) (a b c d : Int) (dep : Nat) :
    (Op.equalIn (dep + 2) t (.agg #[.int .i64 a, .int .i64 b]) (.agg #[.int .i64 c, .int .i64 d])).run P w = .ok (a == c && b == d) w := by
  have hu : P.underlying t = some (.array 2 E) := (T.ok t _ ht).k
  have hi : P.underlying E = some (.int .i64) := (T.ok E _ hE).k
  have hs := (T.ok E _ hE).sizeOf w
  have hag := (T.ok E _ hE).isAgg w
  simp only [TK.isAgg] at hag hs
  have hq : ∀ x y : Int, (Op.equalIn (dep + 1) E (.int .i64 x) (.int .i64 y)).run P w = .ok (x == y) w := fun x y => by simp [Op.equalIn, run_underlying hi]
  rw [Op.equalIn]
  simp only [Sem.run_bind, run_underlying hu, Result.andThen_ok, hs]
  by_cases h1 : a = c
  · by_cases h2 : b = d
    · simp [List.range', part, hag, hq, h1, h2]
    · simp [List.range', part, hag, hq, h1, h2]
  · simp [List.range', part, hag, hq, h1]

theorem run_cmp2 {op : BinOp} {t E : TypeId} {z z2 : Value} {s0 b0 b2 : Nat} {ty2 : TypeId} {e : Env} {x y : Operand} (ht : T.ti t = some ⟨.array 2 E, z, s0, b0⟩) (hE : T.ti E = some ⟨.int .i64, z2, 1, b2⟩) (hm : P.eqGuardType P.depth t = false)
    {a b c d : Int} (hx : opv e x = some (.agg #[.int .i64 a, .int .i64 b])) (hy : opv e y = some (.agg #[.int .i64 c, .int .i64 d])) {q : Bool} (hq : (op = .eql ∧ q = (a == c && b == d)) ∨ (op = .neq ∧ q = !(a == c && b == d))) {ty : TypeId} :
    Yv P e (.binOp op t x y ty2) ty w (.bool q) w := by
  intro ρ hρ dd pos aft g
  have h1 := run_eqGuard_agg (w := w) op t x y #[.int .i64 a, .int .i64 b] #[.int .i64 c, .int .i64 d] hm
  have h2 := run_eq2 (w := w) ht hE a b c d 9998
  rcases hq with ⟨rfl, rfl⟩ | ⟨rfl, rfl⟩
  · simp only [execOp, hρ _ _ hx, hρ _ _ hy, Sem.run_bind, h1, Result.andThen_ok, run_eql_struct, h2]
    rfl
  · simp only [execOp, hρ _ _ hx, hρ _ _ hy, Sem.run_bind, h1, Result.andThen_ok, run_neq_struct, h2]
    rfl

variable {n : Nat} {l0 rest : List Oper} {C : World → Prop} {M : Env → Prop} {e : Env} {ty : TypeId} {pos : String} {aft : Array Edge} {g : Option (Nat × Bool)}
theorem WQ.cmp2 {dd : Nat} {op : BinOp} {t E : TypeId} {z z2 : Value} {s0 b0 b2 : Nat} {ty2 : TypeId} {x y : Operand} {a b c d : Int} (hg : grd l0 e g = some true) (hd : Nat.blt dd n = true) (ht : T.ti t = some ⟨.array 2 E, z, s0, b0⟩) (hE : T.ti E = some ⟨.int .i64, z2, 1, b2⟩) (hm : P.eqGuardType P.depth t = false)
    (hx : opv e x = some (.agg #[.int .i64 a, .int .i64 b])) (hy : opv e y = some (.agg #[.int .i64 c, .int .i64 d])) {q : Bool} (hq : (op = .eql ∧ q = (a == c && b == d)) ∨ (op = .neq ∧ q = !(a == c && b == d)))
    (h : WQ P n l0 C M rest ((dd, .bool q) :: e)) : WQ P n l0 C M (⟨some dd, .binOp op t x y ty2, ty, pos, aft, g⟩ :: rest) e :=
  WQ.val hg hd (fun w _ => run_cmp2 ht hE hm hx hy hq) h
/-- The address of a slice's element. -/
theorem WQ.ix {d : Nat} {t E : TypeId} {i : TI} {x ix : Operand} {b o len cap j : Nat} {k : IntKind} {z : Value} {s b2 : Nat}
    (hg : grd l0 e g = some true) (hd : Nat.blt d n = true) (ht : T.ti t = some ⟨.slice E, z, s, b2⟩) (hi : T.ti E = some i)
    (hx : opv e x = some (.slice (some ⟨b, o, none⟩) len cap)) (hix : opv e ix = some (.int k (j : Nat))) (hj : j < len)
    (h : WQ P n l0 C M rest ((d, .pointer (some ⟨b, o + j * i.size, none⟩)) :: e)) :
    WQ P n l0 C M (⟨some d, .indexAddr t x ix, ty, pos, aft, g⟩ :: rest) e := by
  have hu : P.underlying t = some (.slice E) := (T.ok t _ ht).k
  refine WQ.val hg hd ?_ h
  intro w hw ρ hρ d' pos' aft' g'
  have hsz := (T.ok E i hi).sizeOf w
  have c1 : (0 : Int) ≤ (j : Int) ∧ (j : Int) < (len : Int) := ⟨by omega, by omega⟩
  simp only [execOp, hρ _ _ hx, hρ _ _ hix, Instr.indexAt, asIntOf, Sem.run_bind, Sem.run_pure, Result.andThen_ok, run_underlying hu]
  rw [if_pos c1]
  simp [hsz, Addr.add_lit]
theorem WQ.loadN {d : Nat} {t : TypeId} {i : TI} {x : Operand} {b o : Nat} {cs : List Value} (hg : grd l0 e g = some true) (ht : T.ti t = some i) (h1 : isOne i.k = false) (hx : opv e x = some (.pointer (some ⟨b, o, none⟩))) (hd : Nat.blt d n = true)
    (hl : cs.length = i.size) (hc : ∀ w, C w → ∀ j v, cs[j]? = some v → w.cell? ⟨b, o + j, none⟩ = some v) (h : WQ P n l0 C M rest ((d, .agg cs.toArray) :: e)) : WQ P n l0 C M (⟨some d, .load t x, ty, pos, aft, g⟩ :: rest) e :=
  WQ.val hg hd (fun w hw => run_loadN ht h1 hl hx (fun j v hj => by rw [Addr.add_lit]; exact hc w hw j v hj)) h
end
end Go.W
