/- W, second part: what is reckoned without the world: numbers, truth values, parts of values; by a table of the program's types. -/
import Derived.Test.YtdnkkflpgebfbaaDoorW
set_option linter.unusedVariables false
set_option linter.unusedSectionVars false
namespace Go.W
open Go.RowKit

inductive TK where
  | int (k : IntKind) | bool | string | slice (e : TypeId) | array (n : Nat) (e : TypeId) | struct (fs : List (Nat × TypeId)) | map (k v : TypeId) | pointer (e : TypeId) | func | iface

structure TI where
  k : TK
  zero : Value
  size : Nat
  bytes : Nat

def kOk (P : Program) (t : TypeId) : TK → Prop
  | .int k => P.underlying t = some (.int k)
  | .bool => P.underlying t = some .bool
  | .string => P.underlying t = some .string
  | .slice e => P.underlying t = some (.slice e)
  | .array n e => P.underlying t = some (.array n e)
  | .struct fs => ∃ farr : Array Field, P.underlying t = some (.struct farr) ∧ farr.toList.map (fun f => (f.offset, f.type)) = fs
  | .map k v => P.underlying t = some (.map k v)
  | .pointer e => P.underlying t = some (.pointer e)
  | .func => ∃ a b c, P.underlying t = some (.func a b c)
  | .iface => ∃ a, P.underlying t = some (.interface a)

structure TIok (P : Program) (t : TypeId) (i : TI) : Prop where
  k : kOk P t i.k
  info : (P.info? t).map (fun j => (j.zero, j.size, j.bytes)) = some (some i.zero, i.size, i.bytes)

/-- The table of the types that a program's code names. -/
class TT (P : Program) where
  ti : Nat → Option TI
  ok : ∀ t i, ti t = some i → TIok P t i

section
variable {P : Program} {t : TypeId} {i : TI}
theorem TIok.sizeOf (h : TIok P t i) (w : World) : (sizeOf t).run P w = .ok i.size w := by
  obtain ⟨j, hj, hjj⟩ := Option.map_eq_some_iff.1 h.info
  simp only [Prod.mk.injEq] at hjj
  simp [Go.sizeOf, typeInfo, hj, hjj.2.1]
theorem TIok.zeroValue (h : TIok P t i) (w : World) : (zeroValue t).run P w = .ok i.zero w := by
  obtain ⟨j, hj, hjj⟩ := Option.map_eq_some_iff.1 h.info
  simp only [Prod.mk.injEq] at hjj
  simp [Go.zeroValue, typeInfo, hj, hjj.1]
theorem TIok.bytesOf (h : TIok P t i) (w : World) : ∃ j : TypeInfo, (typeInfo t).run P w = .ok j w ∧ j.bytes = i.bytes := by
  obtain ⟨j, hj, hjj⟩ := Option.map_eq_some_iff.1 h.info
  simp only [Prod.mk.injEq] at hjj
  exact ⟨j, by simp [typeInfo, hj], hjj.2.2⟩
theorem kOk.isSome {k : TK} (h : kOk P t k) : ∃ d, P.underlying t = some d := by
  cases k <;> simp only [kOk] at h <;> first | exact ⟨_, h⟩ | (obtain ⟨_, h, _⟩ := h; exact ⟨_, h⟩) | (obtain ⟨_, _, _, h⟩ := h; exact ⟨_, h⟩) | (obtain ⟨_, h⟩ := h; exact ⟨_, h⟩)

def TK.isAgg : TK → Bool
  | .struct _ => true
  | .array _ _ => true
  | _ => false
theorem TIok.isAgg (h : TIok P t i) (w : World) : (isAgg t).run P w = .ok i.k.isAgg w := by
  have hk := h.k
  unfold Go.isAgg
  cases hh : i.k <;> rw [hh] at hk <;> simp only [kOk] at hk <;>
    first
      | simp [run_underlying hk, TK.isAgg]
      | (obtain ⟨_, hk, _⟩ := hk; simp [run_underlying hk, TK.isAgg])
      | (obtain ⟨_, _, _, hk⟩ := hk; simp [run_underlying hk, TK.isAgg])
      | (obtain ⟨_, hk⟩ := hk; simp [run_underlying hk, TK.isAgg])
end

/-! ### Numbers -/
def shl (k : IntKind) (a : Int) (m : Nat) : Int := k.wrap (a * 2 ^ (min m k.bits))
def shr (k : IntKind) (a : Int) (m : Nat) : Int := a.fdiv (2 ^ (min m k.bits))

def intOp : BinOp → IntKind → Int → Int → Option Value
  | .add, k, a, b => some (.int k (k.wrap (a + b)))
  | .sub, k, a, b => some (.int k (k.wrap (a - b)))
  | .mul, k, a, b => some (.int k (k.wrap (a * b)))
  | .quo, k, a, .ofNat (m + 1) => some (.int k (k.wrap (a.tdiv (.ofNat (m + 1)))))
  | .rem, k, a, .ofNat (m + 1) => some (.int k (a.tmod (.ofNat (m + 1))))
  | .and, k, a, b => some (.int k (bits .and k a b))
  | .or, k, a, b => some (.int k (bits .or k a b))
  | .xor, k, a, b => some (.int k (bits .xor k a b))
  | .andNot, k, a, b => some (.int k (bits .andNot k a b))
  | .eql, _, a, b => some (.bool (a == b))
  | .neq, _, a, b => some (.bool (a != b))
  | .lss, _, a, b => some (.bool (decide (a < b)))
  | .leq, _, a, b => some (.bool (decide (a ≤ b)))
  | .gtr, _, a, b => some (.bool (decide (b < a)))
  | .geq, _, a, b => some (.bool (decide (b ≤ a)))
  | _, _, _, _ => none

def shOp : BinOp → IntKind → Int → Int → Option Value
  | .shl, k, a, .ofNat m => some (.int k (shl k a m))
  | .shr, k, a, .ofNat m => some (.int k (shr k a m))
  | _, _, _, _ => none

def isSh : BinOp → Bool
  | .shl => true
  | .shr => true
  | _ => false

def binV (op : BinOp) : Value → Value → Option Value
  | .int k a, .int j b => match isSh op with
    | true => shOp op k a b
    | false => if k = j then intOp op k a b else none
  | _, _ => none

theorem binV_run {P : Program} {op : BinOp} {x y v : Value} {t : TypeId} {ox oy : Operand} {w : World} (h : binV op x y = some v) :
    (do eqGuard op t ox oy x y; binOp op t x y : Sem Value).run P w = .ok v w := by
  cases x <;> cases y <;> simp only [binV] at h <;> try (cases h; done)
  rename_i k a j b
  rw [eqGuard_at_int]
  cases hs : isSh op with
  | true =>
    rw [hs] at h
    cases op <;> simp only [isSh] at hs <;> try (cases hs; done)
    all_goals
      cases b <;> simp only [shOp] at h <;> try (cases h; done)
      simp only [Option.some.injEq] at h
      subst h
      simp [binOp, Op.shift, shl, shr]
      intro hneg; omega
  | false =>
    rw [hs] at h
    simp only at h
    split at h
    · rename_i hk
      subst hk
      cases op <;> simp only [isSh] at hs <;> try (cases hs; done)
      all_goals
        first
          | (simp only [intOp, Option.some.injEq] at h; subst h; simp [binOp, Op.intArith, Op.intBits, Op.intCmp, bits, GT.gt, GE.ge]; done)
          | (cases b with
             | ofNat m =>
               cases m with
               | zero => simp [intOp] at h
               | succ m =>
                 simp only [intOp, Option.some.injEq] at h
                 subst h
                 have : (Int.ofNat (m + 1)) ≠ 0 := fun hh => by cases hh
                 simp only [binOp, Op.intDiv, ne_eq, not_true_eq_false, if_false, if_neg this]
                 rfl
             | negSucc m => simp [intOp] at h)
    · cases h

def unV : UnOp → Value → Option Value
  | .neg, .int k a => some (.int k (k.wrap (0 - a)))
  | .xor, .int k a => match k.signed with
    | true => some (.int k (bits .xor k (-1) a))
    | false => some (.int k (bits .xor k k.max a))
  | .not, .bool b => some (.bool !b)
  | _, _ => none
theorem unV_run {P : Program} {op : UnOp} {x v : Value} {w : World} (h : unV op x = some v) : (Op.unary op x).run P w = .ok v w := by
  cases op <;> cases x <;> simp only [unV] at h <;> try (cases h; done)
  · simp only [Option.some.injEq] at h; subst h; simp [Op.unary, Op.intArith]
  all_goals
    first
      | (simp only [Option.some.injEq] at h; subst h; simp [Op.unary]; done)
      | (rename_i k a; cases hk : k.signed <;> rw [hk] at h <;> simp only [Option.some.injEq] at h <;> subst h <;> simp [Op.unary, Op.intBits, bits, hk])

def opvs (e : Env) : List Operand → Option (List Value)
  | [] => some []
  | x :: xs => match opv e x with
    | some v => match opvs e xs with
      | some r => some (v :: r)
      | none => none
    | none => none
theorem opvs_agree {e : Env} {ρ : Operand → Value} (h : Agree e ρ) {xs : List Operand} {vs : List Value} (hx : opvs e xs = some vs) : xs.map ρ = vs := by
  induction xs generalizing vs with
  | nil => simp only [opvs, Option.some.injEq] at hx; simp [← hx]
  | cons x xs ih =>
    simp only [opvs] at hx
    cases h1 : opv e x with
    | none => rw [h1] at hx; cases hx
    | some v =>
      rw [h1] at hx
      cases h2 : opvs e xs with
      | none => rw [h2] at hx; cases hx
      | some r =>
        rw [h2] at hx
        simp only [Option.some.injEq] at hx
        rw [← hx, List.map_cons, ih h2, h x v h1]

theorem opvs_arr {e : Env} {ρ : Operand → Value} (h : Agree e ρ) {xs : Array Operand} {vs : List Value} (hx : opvs e xs.toList = some vs) : xs.map ρ = vs.toArray := by
  rw [← opvs_agree h hx, ← Array.toList_inj]; simp

def nth {α : Type} : List α → Nat → Option α
  | [], _ => none
  | x :: _, 0 => some x
  | _ :: r, n + 1 => nth r n
theorem nth_eq {α : Type} (l : List α) (j : Nat) : nth l j = l[j]? := by
  induction l generalizing j with
  | nil => rfl
  | cons x r ih => cases j with
    | zero => rfl
    | succ j => simp [nth, ih]

def isOne : TK → Bool
  | .struct _ => false
  | .array _ _ => false
  | _ => true

def fieldV (tt : Nat → Option TI) (t : TypeId) (x : Value) (j : Nat) : Option Value :=
  match tt t, x with
  | some ⟨.struct fs, _, _, _⟩, .agg cs => match nth fs j with
    | some (o, ft) => match tt ft with
      | some fi => match isOne fi.k with
        | true => nth cs.toList o
        | false => none
      | none => none
    | none => none
  | _, _ => none

def indexV (tt : Nat → Option TI) (t : TypeId) (x : Value) (i : Value) : Option Value :=
  match tt t, x, i with
  | some ⟨.array n et, _, _, _⟩, .agg cs, .int _ (.ofNat m) => match Nat.blt m n with
    | true => match tt et with
      | some fi => match isOne fi.k, fi.size with
        | true, 1 => nth cs.toList m
        | _, _ => none
      | none => none
    | false => none
  | _, _, _ => none

def fieldAddrV (tt : Nat → Option TI) (t : TypeId) (x : Value) (j : Nat) : Option Value :=
  match tt t, x with
  | some ⟨.struct fs, _, _, _⟩, .pointer (some ⟨b, o, none⟩) => match nth fs j with
    | some (off, ft) => match tt ft with
      | some fi => match fi.size with
        | 0 => none
        | _ + 1 => some (.pointer (some ⟨b, o + off, none⟩))
      | none => none
    | none => none
  | _, _ => none

def indexAddrV (tt : Nat → Option TI) (t : TypeId) (x : Value) (i : Value) : Option Value :=
  match tt t, x, i with
  | some ⟨.array n et, _, _, _⟩, .pointer (some ⟨b, o, none⟩), .int _ (.ofNat m) => match Nat.blt m n with
    | true => match tt et with
      | some fi => some (.pointer (some ⟨b, o + m * fi.size, none⟩))
      | none => none
    | false => none
  | _, _, _ => none

def convV (tt : Nat → Option TI) (s d : TypeId) : Value → Option Value
  | .int _ n => match tt s, tt d with
    | some _, some ⟨.int k, _, _, _⟩ => some (.int k (k.wrap n))
    | _, _ => none
  | .string b => match tt s, tt d with
    | some ⟨.string, _, _, _⟩, some ⟨.string, _, _, _⟩ => some (.string b)
    | _, _ => none
  | _ => none

def lenV (tt : Nat → Option TI) (t : TypeId) : Value → Option Value
  | .slice _ n _ => match tt t with
    | some ⟨.slice _, _, _, _⟩ => some (.int .i64 n)
    | _ => none
  | .string s => match tt t with
    | some ⟨.string, _, _, _⟩ => some (.int .i64 s.size)
    | _ => none
  | .pointer (some _) => match tt t with
    | some ⟨.array n _, _, _, _⟩ => some (.int .i64 n)
    | _ => none
  | .agg _ => match tt t with
    | some ⟨.array n _, _, _, _⟩ => some (.int .i64 n)
    | _ => none
  | _ => none

def mnV : List Value → Option Value
  | [.int k a, .int _ b] => some (.int k (min a b))
  | _ => none
def mxV : List Value → Option Value
  | [.int k a, .int _ b] => some (.int k (max a b))
  | _ => none

def extractV (x : Value) (j : Nat) : Option Value :=
  match x with
  | .tuple vs => nth vs.toList j
  | _ => none

def boolEq (op : BinOp) (x y : Value) : Option Value :=
  match op, x, y with
  | .eql, .bool a, .bool b => some (.bool (a == b))
  | .neq, .bool a, .bool b => some (.bool (!(a == b)))
  | _, _, _ => none

def callV (tt : Nat → Option TI) (e : Env) (c : Call) : Option Value :=
  match c.callee with
  | .builtin .len => match c.args.toList, c.argTypes.toList with
    | [x], [t] => match opv e x with
      | some v => lenV tt t v
      | none => none
    | _, _ => none
  | .builtin .min => match opvs e c.args.toList with
    | some vs => mnV vs
    | none => none
  | .builtin .max => match opvs e c.args.toList with
    | some vs => mxV vs
    | none => none
  | _ => none

def pureV (tt : Nat → Option TI) (e : Env) : Op → Option Value
  | .move x => opv e x
  | .assign x => opv e x
  | .pick c x y => match opv e c with
    | some (.bool b) => match b with
      | true => opv e x
      | false => opv e y
    | _ => none
  | .binOp op t x y _ => match opv e x, opv e y with
    | some u, some v => match binV op u v with
      | some r => some r
      | none => match tt t with
        | some ⟨.bool, _, _, _⟩ => boolEq op u v
        | _ => none
    | _, _ => none
  | .unOp op _ x => match opv e x with
    | some u => unV op u
    | none => none
  | .convert s d x => match opv e x with
    | some u => convV tt s d u
    | none => none
  | .field t x j => match opv e x with
    | some u => fieldV tt t u j
    | none => none
  | .index t x i => match opv e x, opv e i with
    | some u, some v => indexV tt t u v
    | _, _ => none
  | .fieldAddr t x j => match opv e x with
    | some u => fieldAddrV tt t u j
    | none => none
  | .indexAddr t x i => match opv e x, opv e i with
    | some u, some v => indexAddrV tt t u v
    | _, _ => none
  | .extract x j => match opv e x with
    | some u => extractV u j
    | none => none
  | .makeFunc fn first captured => match opvs e first.toList, opvs e captured.toList with
    | some a, some b => some (.func fn a.toArray b.toArray)
    | _, _ => none
  | .call c => callV tt e c
  | _ => none

section
variable {P : Program} [T : TT P] {e : Env} {w : World} {ty : TypeId}

theorem field_run {t : TypeId} {x v : Value} {j : Nat} (h : fieldV T.ti t x j = some v) : (Instr.field t x j).run P w = .ok v w := by
  unfold fieldV at h
  split at h <;> try (cases h; done)
  rename_i fs z s b cs ht
  have hk := T.ok t _ ht
  obtain ⟨farr, hu, hf⟩ := hk.k
  split at h <;> try (cases h; done)
  rename_i o ft hn
  split at h <;> try (cases h; done)
  rename_i fi hfi
  split at h <;> try (cases h; done)
  rename_i h1
  rw [nth_eq] at hn h
  rw [← hf] at hn
  simp only [List.getElem?_map, Option.map_eq_some_iff] at hn
  obtain ⟨f, hff, hfo⟩ := hn
  simp only [Prod.mk.injEq] at hfo
  have hagg := (T.ok ft fi hfi).isAgg w
  have hag : fi.k.isAgg = false := by cases hk2 : fi.k <;> rw [hk2] at h1 <;> first | rfl | (simp [isOne] at h1)
  rw [hag] at hagg
  have hff' : farr[j]? = some f := by simpa using hff
  have hcs : cs[o]? = some v := by simpa using h
  simp [Instr.field, run_underlying hu, hff', part, hfo.2, hfo.1, hagg, asAgg, hcs]

theorem index_run {t : TypeId} {x v i : Value} (h : indexV T.ti t x i = some v) : (Instr.index t x i).run P w = .ok v w := by
  unfold indexV at h
  split at h <;> try (cases h; done)
  rename_i n et z s b cs k m ht
  have hk := T.ok t _ ht
  have hu : P.underlying t = some (.array n et) := hk.k
  split at h <;> try (cases h; done)
  rename_i hlt
  have hlt' : m < n := by simpa [Nat.blt_eq] using hlt
  split at h <;> try (cases h; done)
  rename_i fi hfi
  split at h <;> try (cases h; done)
  rename_i h1 hs
  rw [nth_eq] at h
  have hagg := (T.ok et fi hfi).isAgg w
  have hag : fi.k.isAgg = false := by cases hk2 : fi.k <;> rw [hk2] at h1 <;> first | rfl | (simp [isOne] at h1)
  rw [hag] at hagg
  have hsz := (T.ok et fi hfi).sizeOf w
  rw [hs] at hsz
  have hcs : cs[m]? = some v := by simpa using h
  have c1 : (0 : Int) ≤ Int.ofNat m ∧ Int.ofNat m < (n : Int) := ⟨by simp, by simp; omega⟩
  simp only [Instr.index, asIntOf, Sem.run_bind, Sem.run_pure, Result.andThen_ok, run_underlying hu]
  rw [if_pos c1]
  simp [hsz, part, hagg, hcs]

theorem fieldAddr_run {t : TypeId} {x v : Value} {j : Nat} (h : fieldAddrV T.ti t x j = some v) : (Instr.fieldAt t x j).run P w = .ok v w := by
  unfold fieldAddrV at h
  split at h <;> try (cases h; done)
  rename_i fs z s b blk o ht
  have hk := T.ok t _ ht
  obtain ⟨farr, hu, hf⟩ := hk.k
  split at h <;> try (cases h; done)
  rename_i off ft hn
  split at h <;> try (cases h; done)
  rename_i fi hfi
  split at h <;> try (cases h; done)
  rename_i q hq
  rw [nth_eq] at hn
  rw [← hf] at hn
  simp only [List.getElem?_map, Option.map_eq_some_iff] at hn
  obtain ⟨f, hff, hfo⟩ := hn
  simp only [Prod.mk.injEq] at hfo
  have hff' : farr[j]? = some f := by simpa using hff
  have hsz := (T.ok ft fi hfi).sizeOf w
  rw [hq] at hsz
  simp only [Option.some.injEq] at h
  subst h
  simp [Instr.fieldAt, run_underlying hu, hff', Instr.sureAddr, fieldPlace, hfo.2, hsz, hfo.1, Addr.add_lit]

theorem indexAddr_run {t : TypeId} {x v i : Value} (h : indexAddrV T.ti t x i = some v) : (Instr.indexAt t x i).run P w = .ok v w := by
  unfold indexAddrV at h
  split at h <;> try (cases h; done)
  rename_i n et z s b blk o k m ht
  have hk := T.ok t _ ht
  have hu : P.underlying t = some (.array n et) := hk.k
  split at h <;> try (cases h; done)
  rename_i hlt
  have hlt' : m < n := by simpa [Nat.blt_eq] using hlt
  split at h <;> try (cases h; done)
  rename_i fi hfi
  simp only [Option.some.injEq] at h
  subst h
  have hsz := (T.ok et fi hfi).sizeOf w
  have c1 : (0 : Int) ≤ Int.ofNat m ∧ Int.ofNat m < (n : Int) := ⟨by simp, by simp; omega⟩
  simp only [Instr.indexAt, asIntOf, Sem.run_bind, Sem.run_pure, Result.andThen_ok, run_underlying hu, Instr.sureAddr]
  rw [if_pos c1]
  simp [hsz, Addr.add_lit]

theorem conv_run {s d : TypeId} {x v : Value} (h : convV T.ti s d x = some v) : (convert s d x).run P w = .ok v w := by
  unfold convV at h
  split at h <;> try (cases h; done)
  · rename_i k n
    split at h <;> try (cases h; done)
    rename_i si kd _ _ _ hs hd
    simp only [Option.some.injEq] at h
    subst h
    have hd' : P.underlying d = some (.int kd) := (T.ok d _ hd).k
    obtain ⟨ds, hs'⟩ := (T.ok s _ hs).k.isSome
    simp [convert, run_underlying hs', run_underlying hd', Conv.intToInt]
  · split at h <;> try (cases h; done)
    rename_i _ _ _ _ _ _ hs hd
    simp only [Option.some.injEq] at h
    subst h
    have hd' : P.underlying d = some .string := (T.ok d _ hd).k
    have hs' : P.underlying s = some .string := (T.ok s _ hs).k
    simp [convert, run_underlying hs', run_underlying hd']

theorem len_run {t t2 : TypeId} {x v : Value} (h : lenV T.ti t x = some v) : (Builtin.len_ #[t] t2 #[x]).run P w = .ok v w := by
  unfold lenV at h
  split at h <;> try (cases h; done)
  all_goals
    split at h <;> try (cases h; done)
    rename_i ht
    simp only [Option.some.injEq] at h
    subst h
    have hu := (T.ok t _ ht).k
    simp only [kOk] at hu
    simp [Builtin.len_, run_underlying hu, goInt]

theorem min_run {a : Array TypeId} {t2 : TypeId} {vs : List Value} {v : Value} (h : mnV vs = some v) : (Builtin.min_ a t2 vs.toArray).run P w = .ok v w := by
  unfold mnV at h
  split at h <;> try (cases h; done)
  simp only [Option.some.injEq] at h
  subst h
  rename_i k a' j b
  have : (if b < a' then b else a') = min a' b := by omega
  simp [Builtin.min_, Builtin.min2, this]
theorem max_run {a : Array TypeId} {t2 : TypeId} {vs : List Value} {v : Value} (h : mxV vs = some v) : (Builtin.max_ a t2 vs.toArray).run P w = .ok v w := by
  unfold mxV at h
  split at h <;> try (cases h; done)
  simp only [Option.some.injEq] at h
  subst h
  rename_i k a' j b
  have : (if b > a' then b else a') = max a' b := by omega
  simp [Builtin.max_, Builtin.max2, this]

theorem boolEq_run {op : BinOp} {t : TypeId} {x y v : Value} {ox oy : Operand} (ht : P.underlying t = some .bool) (h : boolEq op x y = some v) :
    (do eqGuard op t ox oy x y; binOp op t x y : Sem Value).run P w = .ok v w := by
  unfold boolEq at h
  split at h <;> try (cases h; done)
  all_goals
    simp only [Option.some.injEq] at h
    subst h
    rw [eqGuard_at_bool]
    simp [binOp, run_equal_bool w t _ _ ht]

theorem pure_run {op : Op} {v : Value} (h : pureV T.ti e op = some v) : Yv P e op ty w v w := by
  intro ρ hρ d pos aft g
  unfold pureV at h
  split at h <;> try (cases h; done)
  · simp only [execOp, hρ _ _ h]; rfl
  · simp only [execOp, hρ _ _ h]; rfl
  · split at h <;> try (cases h; done)
    rename_i b hc
    split at h <;> simp [execOp, hρ _ _ hc, asBool, hρ _ _ h]
  · split at h <;> try (cases h; done)
    rename_i u' v' hu hv
    split at h
    · rename_i r hr
      simp only [Option.some.injEq] at h
      subst h
      simp only [execOp, hρ _ _ hu, hρ _ _ hv]
      rw [Sem.run_bind, binV_run hr]
      rfl
    · split at h <;> try (cases h; done)
      rename_i ht
      have hk : P.underlying _ = some .bool := (T.ok _ _ ht).k
      simp only [execOp, hρ _ _ hu, hρ _ _ hv]
      rw [Sem.run_bind, boolEq_run hk h]
      rfl
  · split at h <;> try (cases h; done)
    rename_i hu
    simp [execOp, hρ _ _ hu, unV_run h]
  · split at h <;> try (cases h; done)
    rename_i hu
    simp [execOp, hρ _ _ hu, conv_run h]
  · split at h <;> try (cases h; done)
    rename_i hu
    simp [execOp, hρ _ _ hu, field_run h]
  · split at h <;> try (cases h; done)
    rename_i hu hv
    simp [execOp, hρ _ _ hu, hρ _ _ hv, index_run h]
  · split at h <;> try (cases h; done)
    rename_i hu
    simp [execOp, hρ _ _ hu, fieldAddr_run h]
  · split at h <;> try (cases h; done)
    rename_i hu hv
    simp [execOp, hρ _ _ hu, hρ _ _ hv, indexAddr_run h]
  · split at h <;> try (cases h; done)
    rename_i x j _ u hu
    unfold extractV at h
    split at h <;> try (cases h; done)
    rename_i vs
    rw [nth_eq] at h
    have h' : vs[j]? = some v := by simpa using h
    simp [execOp, hρ _ _ hu, Instr.extract, h']
  · split at h <;> try (cases h; done)
    rename_i a b ha hb
    simp only [Option.some.injEq] at h
    subst h
    rename_i first captured _ _
    have e1 : first.map ρ = a.toArray := opvs_arr hρ ha
    have e2 : captured.map ρ = b.toArray := opvs_arr hρ hb
    simp [execOp, Instr.makeFunc, e1, e2]
  · rename_i c
    unfold callV at h
    split at h <;> try (cases h; done)
    · rename_i hc
      split at h <;> try (cases h; done)
      rename_i x t hx ht
      split at h <;> try (cases h; done)
      rename_i u hu
      have e1 : c.args = #[x] := by rw [← Array.toList_inj]; simpa using hx
      have e2 : c.argTypes = #[t] := by rw [← Array.toList_inj]; simpa using ht
      simp [execOp, resolve, hc, invoke, builtin, e1, e2, hρ _ _ hu, len_run h]
    · rename_i hc
      split at h <;> try (cases h; done)
      rename_i vs hvs
      have e1 : c.args.map ρ = vs.toArray := opvs_arr hρ hvs
      simp [execOp, resolve, hc, invoke, builtin, e1, min_run h]
    · rename_i hc
      split at h <;> try (cases h; done)
      rename_i vs hvs
      have e1 : c.args.map ρ = vs.toArray := opvs_arr hρ hvs
      simp [execOp, resolve, hc, invoke, builtin, e1, max_run h]

variable {ro : Option Nat} {n : Nat} {l0 rest : List Oper} {N : Nor} {Z : Pan} {op : Op} {pos : String} {aft : Array Edge} {g : Option (Nat × Bool)}
/-- One operation that is reckoned. -/
theorem WL.pure {d : Nat} {v : Value} (hg : grd l0 e g = some true) (hv : pureV T.ti e op = some v) (hd : Nat.blt d n = true)
    (h : WL P ro n l0 N Z rest ((d, v) :: e) w) : WL P ro n l0 N Z (⟨some d, op, ty, pos, aft, g⟩ :: rest) e w := WL.val hg rfl hd (pure_run hv) h
end
end Go.W
