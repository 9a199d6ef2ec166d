/- The walks of a factorization. -/
import Derived.Test.YtagfpnnplgkkoaaR27
namespace Go.Poly
open Go.W Go.Tree
/-- What a factor says. -/
def prE (e : FE) : List Nat × Nat := (e.1.2, e.2)
def ltQ (a b : List Nat × Nat) : Bool := decide (ordP a.1 b.1 < 0)
def ltE (x y : FE) : Bool := decide (ordP x.1.2 y.1.2 < 0)
theorem isrt_E (k : Nat) (l : List FE) : (isrt ltE k l).map prE = isrt ltQ k (l.map prE) := (isrt_map prE ltQ k l).symm
/-- The factors that a list of parts without multiple factors leads to. -/
def spl (p : Nat) (l : Yds) : Yds := l.flatMap fun e => (splitL p e.1).map fun h => (h, e.2)
end Go.Poly
namespace Go.W
open Go.RowKit
section
variable {P : Program} [T : TT P] {ro : Option Nat} {n : Nat} {l0 rest : List Oper} {N : Nor} {Z : Pan} {e : Env} {w : World} {ty : TypeId} {pos : String} {aft : Array Edge} {g : Option (Nat × Bool)}
/-- A string's byte. -/
theorem WL.strIx {d : Nat} {t : TypeId} {z : Value} {s0 b0 m : Nat} {x ix : Operand} {s : ByteArray} {k : IntKind} (hg : grd l0 e g = some true) (hd : Nat.blt d n = true) (ht : T.ti t = some ⟨.string, z, s0, b0⟩)
    (hx : opv e x = some (.string s)) (hix : opv e ix = some (.int k (m : Nat))) (hm : (s[m]?).isSome = true)
    (h : ∀ b : UInt8, WL P ro n l0 N Z rest ((d, .int .u8 b.toNat) :: e) w) : WL P ro n l0 N Z (⟨some d, .index t x ix, ty, pos, aft, g⟩ :: rest) e w := by
  obtain ⟨b, hb⟩ := Option.isSome_iff_exists.1 hm
  have hu : P.underlying t = some .string := (T.ok t _ ht).k
  refine WL.val hg rfl hd ?_ (h b)
  intro ρ hρ d' pos' aft' g'
  simp [execOp, hρ _ _ hx, hρ _ _ hix, Instr.index, asIntOf, run_underlying hu, hb]
end
end Go.W
namespace Go.Proofs.Ytagfpnnplgkkoaa
open Go.W Go.Poly Go.Tree Go.RowKit
set_option maxRecDepth 100000
attribute [local irreducible] WC WL WQ WS WH

abbrev Fr (v : Value) (fs : List FE) : Ent := .row 59 2 v fs.length (fcs fs)

theorem Len64_any (x : Nat) (hx : x ≤ 12) (w : World) : Ret Try.prog 123 [.int .u64 (x : Nat)] w fun u w' => (∃ l : Int, u = .int .i64 l) ∧ w' = w := by
  have e1 : IntKind.u8.wrap (x : Int) = ((x : Nat) : Int) := by simp [IntKind.wrap, IntKind.bits, IntKind.signed]; omega
  refine enter Try.func123 rfl rfl ⟨rfl, rfl⟩ rfl ?_
  repeat (first | refine WC.seq ?_ | refine WC.reg ?_ | refine WL.pure rfl rfl rfl ?_ | refine WL.nil ?_ | refine WC.skip ?_ | refine WC.block ?_ | refine WC.condT rfl ?_ | refine WC.condF rfl ?_ | refine WL.off rfl rfl rfl ?_ | refine WL.off0 rfl rfl ?_ | refine WC.exit ?_ | refine blk_hit ?_ | refine blk_miss rfl ?_ | refine WC.ret ?_)
  refine WC.cond rfl (fun h => absurd (of_decide_eq_true h) (by omega)) (fun _ => ?_)
  repeat (first | refine WC.seq ?_ | refine WC.reg ?_ | refine WL.pure rfl rfl rfl ?_ | refine WL.nil ?_ | refine WC.skip ?_ | refine WC.block ?_ | refine WC.condT rfl ?_ | refine WC.condF rfl ?_ | refine WL.off rfl rfl rfl ?_ | refine WL.off0 rfl rfl ?_ | refine WC.exit ?_ | refine blk_hit ?_ | refine blk_miss rfl ?_ | refine WC.ret ?_)
  refine WC.cond rfl (fun h => absurd (of_decide_eq_true h) (by omega)) (fun _ => ?_)
  repeat (first | refine WC.seq ?_ | refine WC.reg ?_ | refine WL.pure rfl rfl rfl ?_ | refine WL.nil ?_ | refine WC.skip ?_ | refine WC.block ?_ | refine WC.condT rfl ?_ | refine WC.condF rfl ?_ | refine WL.off rfl rfl rfl ?_ | refine WL.off0 rfl rfl ?_ | refine WC.exit ?_ | refine blk_hit ?_ | refine blk_miss rfl ?_ | refine WC.ret ?_)
  refine WC.cond rfl (fun h => absurd (of_decide_eq_true h) (by omega)) (fun _ => ?_)
  repeat (first | refine WC.seq ?_ | refine WC.reg ?_ | refine WL.pure rfl rfl rfl ?_ | refine WL.nil ?_ | refine WC.skip ?_ | refine WC.block ?_ | refine WC.condT rfl ?_ | refine WC.condF rfl ?_ | refine WL.off rfl rfl rfl ?_ | refine WL.off0 rfl rfl ?_ | refine WC.exit ?_ | refine blk_hit ?_ | refine blk_miss rfl ?_ | refine WC.ret ?_)
  refine WL.known (d := 21) (congrArg (fun z => some (Value.int .u8 z)) e1) ?_
  refine WL.strIx rfl rfl rfl rfl rfl ?_ (fun b => ?_)
  · have hc : x = 0 ∨ x = 1 ∨ x = 2 ∨ x = 3 ∨ x = 4 ∨ x = 5 ∨ x = 6 ∨ x = 7 ∨ x = 8 ∨ x = 9 ∨ x = 10 ∨ x = 11 ∨ x = 12 := by omega
    rcases hc with rfl | rfl | rfl | rfl | rfl | rfl | rfl | rfl | rfl | rfl | rfl | rfl | rfl <;> (refine (?_ : (_ : Bool) = true); kernel_rfl)
  · repeat (first | refine WC.seq ?_ | refine WC.reg ?_ | refine WL.pure rfl rfl rfl ?_ | refine WL.nil ?_ | refine WC.skip ?_ | refine WC.block ?_ | refine WC.condT rfl ?_ | refine WC.condF rfl ?_ | refine WL.off rfl rfl rfl ?_ | refine WL.off0 rfl rfl ?_ | refine WC.exit ?_ | refine blk_hit ?_ | refine blk_miss rfl ?_ | refine WC.ret ?_)
    exact Res.one rfl rfl rfl ⟨⟨_, rfl⟩, rfl⟩
theorem Len_any (x : Nat) (hx : x ≤ 12) (w : World) : Ret Try.prog 105 [.int .u64 (x : Nat)] w fun u w' => (∃ l : Int, u = .int .i64 l) ∧ w' = w := by
  refine enter Try.func105 rfl rfl ⟨rfl, rfl⟩ rfl ?_
  repeat (first | refine WC.seq ?_ | refine WC.reg ?_ | refine WL.pure rfl rfl rfl ?_ | refine WL.nil ?_ | refine WC.skip ?_ | refine WC.block ?_ | refine WC.condT rfl ?_ | refine WC.condF rfl ?_ | refine WL.off rfl rfl rfl ?_ | refine WL.off0 rfl rfl ?_ | refine WC.exit ?_ | refine blk_hit ?_ | refine blk_miss rfl ?_ | refine WC.ret ?_)
  refine WL.call rfl rfl rfl rfl rfl ent123 (Len64_any x hx w) ?_
  rintro _ w1 ⟨⟨l, rfl⟩, rfl⟩
  repeat (first | refine WC.seq ?_ | refine WC.reg ?_ | refine WL.pure rfl rfl rfl ?_ | refine WL.nil ?_ | refine WC.skip ?_ | refine WC.block ?_ | refine WC.condT rfl ?_ | refine WC.condF rfl ?_ | refine WL.off rfl rfl rfl ?_ | refine WL.off0 rfl rfl ?_ | refine WC.exit ?_ | refine blk_hit ?_ | refine blk_miss rfl ?_ | refine WC.ret ?_)
  exact Res.one rfl rfl rfl ⟨⟨l, rfl⟩, rfl⟩

theorem insertion0 (a : Option Addr) (c : Nat) (fv : Value) (w : World) :
    Ret Try.prog 114 [.slice a 0 c, .int .i64 0, .int .i64 0, fv] w fun _ w' => w' = w := by
  refine enter Try.func114 rfl rfl ⟨rfl, rfl⟩ rfl ?_
  repeat (first | refine WC.seq ?_ | refine WC.reg ?_ | refine WL.pure rfl rfl rfl ?_ | refine WL.nil ?_ | refine WC.skip ?_ | refine WC.block ?_ | refine WC.condT rfl ?_ | refine WC.condF rfl ?_ | refine WL.off rfl rfl rfl ?_ | refine WL.off0 rfl rfl ?_ | refine WC.exit ?_ | refine blk_hit ?_ | refine blk_miss rfl ?_ | refine WC.ret ?_)
  refine WC.loop Unit (fun _ => [(2, .int .i64 0), (8, .int .i64 1)]) (fun _ w' => w' = w) (fun _ => 0) () ⟨rfl, rfl, rfl⟩ rfl ?_
  rintro ⟨⟩ w1 rfl
  repeat (first | refine WC.seq ?_ | refine WC.reg ?_ | refine WL.pure rfl rfl rfl ?_ | refine WL.nil ?_ | refine WC.skip ?_ | refine WC.block ?_ | refine WC.condT rfl ?_ | refine WC.condF rfl ?_ | refine WL.off rfl rfl rfl ?_ | refine WL.off0 rfl rfl ?_ | refine WC.exit ?_ | refine blk_hit ?_ | refine blk_miss rfl ?_ | refine WC.ret ?_)
  exact Res.zero rfl rfl rfl
theorem pdq_any (n : Nat) (hn : n ≤ 12) (v fv : Value) (l : Int) (w : World) (R : World → Prop)
    (h : Ret Try.prog 114 [v, .int .i64 0, .int .i64 (n : Nat), fv] w fun _ w' => R w') :
    Ret Try.prog 104 [v, .int .i64 0, .int .i64 (n : Nat), .int .i64 l, fv] w fun _ w' => R w' := by
  have e1 : IntKind.i64.wrap ((n : Int) - 0) = (n : Int) := by rw [Int.sub_zero]; exact wrap_mid (by omega) (by omega)
  refine enter Try.func104 rfl rfl ⟨rfl, rfl⟩ rfl ?_
  repeat (first | refine WC.seq ?_ | refine WC.reg ?_ | refine WL.pure rfl rfl rfl ?_ | refine WL.nil ?_ | refine WC.skip ?_ | refine WC.block ?_ | refine WC.condT rfl ?_ | refine WC.condF rfl ?_ | refine WL.off rfl rfl rfl ?_ | refine WL.off0 rfl rfl ?_ | refine WC.exit ?_ | refine blk_hit ?_ | refine blk_miss rfl ?_ | refine WC.ret ?_)
  refine WC.loop Unit (fun _ => [(0, v), (1, .int .i64 0), (2, .int .i64 (n : Nat)), (4, fv)]) (fun _ w' => w' = w) (fun _ => 0) () ⟨rfl, rfl, rfl, rfl, rfl⟩ rfl ?_
  rintro ⟨⟩ w1 rfl
  repeat (first | refine WC.seq ?_ | refine WC.reg ?_ | refine WL.pure rfl rfl rfl ?_ | refine WL.nil ?_ | refine WC.skip ?_ | refine WC.block ?_ | refine WC.condT rfl ?_ | refine WC.condF rfl ?_ | refine WL.off rfl rfl rfl ?_ | refine WL.off0 rfl rfl ?_ | refine WC.exit ?_ | refine blk_hit ?_ | refine blk_miss rfl ?_ | refine WC.ret ?_)
  refine WC.cond rfl (fun h1 => ?_) (fun h1 => ?_)
  · repeat (first | refine WC.seq ?_ | refine WC.reg ?_ | refine WL.pure rfl rfl rfl ?_ | refine WL.nil ?_ | refine WC.skip ?_ | refine WC.block ?_ | refine WC.condT rfl ?_ | refine WC.condF rfl ?_ | refine WL.off rfl rfl rfl ?_ | refine WL.off0 rfl rfl ?_ | refine WC.exit ?_ | refine blk_hit ?_ | refine blk_miss rfl ?_ | refine WC.ret ?_)
    refine WL.call rfl rfl rfl rfl rfl ent114 h ?_
    intro u w2 h2
    repeat (first | refine WC.seq ?_ | refine WC.reg ?_ | refine WL.pure rfl rfl rfl ?_ | refine WL.nil ?_ | refine WC.skip ?_ | refine WC.block ?_ | refine WC.condT rfl ?_ | refine WC.condF rfl ?_ | refine WL.off rfl rfl rfl ?_ | refine WL.off0 rfl rfl ?_ | refine WC.exit ?_ | refine blk_hit ?_ | refine blk_miss rfl ?_ | refine WC.ret ?_)
    exact Res.zero rfl rfl h2
  · have := of_decide_eq_false h1
    rw [e1] at this
    omega
theorem SortFunc_any (n : Nat) (hn : n ≤ 12) (a : Option Addr) (c : Nat) (fv : Value) (w : World) (R : World → Prop)
    (h : Ret Try.prog 114 [.slice a n c, .int .i64 0, .int .i64 (n : Nat), fv] w fun _ w' => R w') :
    Ret Try.prog 84 [.slice a n c, fv] w fun _ w' => R w' := by
  have e1 : IntKind.u64.wrap (n : Int) = ((n : Nat) : Int) := by simp [IntKind.wrap, IntKind.bits, IntKind.signed]; omega
  refine enter Try.func84 rfl rfl ⟨rfl, rfl⟩ rfl ?_
  repeat (first | refine WC.seq ?_ | refine WC.reg ?_ | refine WL.pure rfl rfl rfl ?_ | refine WL.nil ?_ | refine WC.skip ?_ | refine WC.block ?_ | refine WC.condT rfl ?_ | refine WC.condF rfl ?_ | refine WL.off rfl rfl rfl ?_ | refine WL.off0 rfl rfl ?_ | refine WC.exit ?_ | refine blk_hit ?_ | refine blk_miss rfl ?_ | refine WC.ret ?_)
  refine WL.known (d := 10) (congrArg (fun z => some (Value.int .u64 z)) e1) ?_
  refine WL.call rfl rfl rfl rfl rfl ent105 (Len_any n hn w) ?_
  rintro _ w1 ⟨⟨l, rfl⟩, rfl⟩
  repeat (first | refine WC.seq ?_ | refine WC.reg ?_ | refine WL.pure rfl rfl rfl ?_ | refine WL.nil ?_ | refine WC.skip ?_ | refine WC.block ?_ | refine WC.condT rfl ?_ | refine WC.condF rfl ?_ | refine WL.off rfl rfl rfl ?_ | refine WL.off0 rfl rfl ?_ | refine WC.exit ?_ | refine blk_hit ?_ | refine blk_miss rfl ?_ | refine WC.ret ?_)
  refine WL.call rfl rfl rfl rfl rfl ent104 (pdq_any n hn _ fv l w1 R h) ?_
  intro u w2 h2
  repeat (first | refine WC.seq ?_ | refine WC.reg ?_ | refine WL.pure rfl rfl rfl ?_ | refine WL.nil ?_ | refine WC.skip ?_ | refine WC.block ?_ | refine WC.condT rfl ?_ | refine WC.condF rfl ?_ | refine WL.off rfl rfl rfl ?_ | refine WL.off0 rfl rfl ?_ | refine WC.exit ?_ | refine blk_hit ?_ | refine blk_miss rfl ?_ | refine WC.ret ?_)
  exact Res.zero rfl rfl h2

theorem facD_any (x y : FE) (w : World) (hx : x.1.2.length ≤ 1000000) (hy : y.1.2.length ≤ 1000000) (sx : Pd w x.1.1 x.1.2) (sy : Pd w y.1.1 y.1.2) :
    Ret Try.prog 85 [.agg (fc x).toArray, .agg (fc y).toArray] w fun u w' => u = .int .i64 (ordP x.1.2 y.1.2) ∧ Hp w w' [] := by
  obtain ⟨⟨vx, f⟩, t⟩ := x
  obtain ⟨⟨vy, g⟩, s⟩ := y
  simp only at sx sy hx hy
  have sx' := sx
  have sy' := sy
  obtain ⟨xa, xc, rfl, -⟩ := sx
  obtain ⟨ya, yc, rfl, -⟩ := sy
  refine enter Try.func85 rfl rfl ⟨rfl, rfl⟩ rfl ?_
  repeat (first | refine WC.seq ?_ | refine WC.reg ?_ | refine WL.pure rfl rfl rfl ?_ | refine WL.nil ?_ | refine WC.skip ?_ | refine WC.block ?_ | refine WC.condT rfl ?_ | refine WC.condF rfl ?_ | refine WL.off rfl rfl rfl ?_ | refine WL.off0 rfl rfl ?_ | refine WC.exit ?_ | refine blk_hit ?_ | refine blk_miss rfl ?_ | refine WC.ret ?_)
  refine WL.box rfl rfl rfl ?_
  intro b1 w1 hb1
  have hp1 := (Hp.start w).new hb1
  refine WL.box rfl rfl rfl ?_
  intro b2 w2 hb2
  have hp2 := hp1.new hb2
  repeat (first | refine WC.seq ?_ | refine WC.reg ?_ | refine WL.pure rfl rfl rfl ?_ | refine WL.nil ?_ | refine WC.skip ?_ | refine WC.block ?_ | refine WC.condT rfl ?_ | refine WC.condF rfl ?_ | refine WL.off rfl rfl rfl ?_ | refine WL.off0 rfl rfl ?_ | refine WC.exit ?_ | refine blk_hit ?_ | refine blk_miss rfl ?_ | refine WC.ret ?_)
  refine WL.loadB rfl rfl rfl rfl rfl (hp2.obj 1 rfl) rfl ?_
  repeat (first | refine WC.seq ?_ | refine WC.reg ?_ | refine WL.pure rfl rfl rfl ?_ | refine WL.nil ?_ | refine WC.skip ?_ | refine WC.block ?_ | refine WC.condT rfl ?_ | refine WC.condF rfl ?_ | refine WL.off rfl rfl rfl ?_ | refine WL.off0 rfl rfl ?_ | refine WC.exit ?_ | refine blk_hit ?_ | refine blk_miss rfl ?_ | refine WC.ret ?_)
  refine WL.loadB rfl rfl rfl rfl rfl (hp2.obj 0 rfl) rfl ?_
  refine WL.call rfl rfl rfl rfl rfl ent86 (order_pd _ _ f g hx hy w2 (sx'.hp hp2) (sy'.hp hp2)) ?_
  rintro _ w3 ⟨rfl, hp3⟩
  repeat (first | refine WC.seq ?_ | refine WC.reg ?_ | refine WL.pure rfl rfl rfl ?_ | refine WL.nil ?_ | refine WC.skip ?_ | refine WC.block ?_ | refine WC.condT rfl ?_ | refine WC.condF rfl ?_ | refine WL.off rfl rfl rfl ?_ | refine WL.off0 rfl rfl ?_ | refine WC.exit ?_ | refine blk_hit ?_ | refine blk_miss rfl ?_ | refine WC.ret ?_)
  exact Res.one rfl rfl rfl ⟨rfl, hp2.nil'.over hp3⟩

theorem sort_any (v : Value) (fs : List FE) (bag : List (Value × List Nat)) (A M : List Ent) (hn : fs.length ≤ 12) (hb : ∀ e ∈ fs, e.1 ∈ bag ∧ e.1.2.length ≤ 1000000) (w0 w : World) (hp : Hp w0 w (Fr v fs :: (A ++ (bagE bag ++ M)))) :
    Ret Try.prog 84 [v, .func (.func 85) #[] #[]] w fun _ w' => Hp w0 w' (Fr v (isrt ltE (fs.length - 1) fs) :: (A ++ (bagE bag ++ M))) := by
  have hbp : ∀ {w' : World} {o : Ent} {e : FE}, Hp w0 w' (o :: (A ++ (bagE bag ++ M))) → e ∈ fs → Pd w' e.1.1 e.1.2 := by
    intro w' o e h he
    have h2 : Hp w0 w' ((o :: A) ++ bagE bag) := h.subl (.cons_cons _ ((List.Sublist.refl _).append (List.sublist_append_left _ _)))
    exact bag_pd h2 (hb e he).1
  have hlen := (isrt_perm ltE (fs.length - 1) fs).length_eq
  rcases Nat.eq_zero_or_pos fs.length with h0 | h0
  · have hf : fs = [] := List.length_eq_zero_iff.1 h0
    subst hf
    obtain ⟨a, c, rfl⟩ : ∃ a c, v = .slice a 0 c := owns_shape (hp.at 0 rfl)
    refine SortFunc_any 0 (by omega) a c _ w _ ((insertion0 a c _ w).mono ?_)
    rintro _ w' rfl
    exact hp
  · obtain ⟨b, cap, t, rfl, hnc, hcm, htl, hpb⟩ := Hp.toBlkS hp h0
    refine SortFunc_any fs.length hn (some ⟨b, 0, none⟩) cap _ w (fun w' => Hp w0 w' (Fr _ _ :: _)) ?_
    refine (insertion_any b fs.length cap t fs rfl (by omega) ?_ 85 #[] (fun x y => ordP x.1.2 y.1.2) ent85 w0 w _ hpb ?_).mono ?_
    · intro e he
      obtain ⟨_, _, h1, _⟩ := hbp hp he
      rw [h1]; rfl
    · intro x y o w' hx hy h
      exact facD_any x y w' (hb x hx).2 (hb y hy).2 (hbp h hx) (hbp h hy)
    · intro _ w' h
      have h2 := Hp.ofBlkS (cap := cap) (m := fs.length) (s := 2) h (by rw [fcs_len]; show (isrt ltE (fs.length - 1) fs).length * 2 + _ = _; rw [hlen]; omega) hcm (by rw [fcs_len]; show (isrt ltE (fs.length - 1) fs).length * 2 = _; rw [hlen]) hnc
      show Hp w0 w' (Ent.row _ 2 _ _ _ :: _)
      rw [hlen]
      exact h2
end Go.Proofs.Ytagfpnnplgkkoaa
