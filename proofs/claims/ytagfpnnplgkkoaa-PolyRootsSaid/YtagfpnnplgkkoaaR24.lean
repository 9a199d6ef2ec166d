/- The walk of a kernel: the rows are laid. -/
import Derived.Test.YtagfpnnplgkkoaaR23
namespace Go.Poly
theorem at_isP {p : Nat} (hpp : Pri p) {f x : List Nat} (hf : IsP p f) (hf0 : 1 < f.length) (hx : IsP p x) : ∀ i, IsP p (atL p f x i) ∧ (atL p f x i).length ≤ f.length - 1
  | 0 => ⟨isP_one hpp, by simp [atL]; omega⟩
  | i + 1 => by
    have hm := mul_isP hpp (at_isP hpp hf hf0 hx i).1 hx
    have := rem_lt hpp hm hf (by omega)
    exact ⟨rem_isP hpp hm hf (by omega), by rw [atL]; omega⟩
theorem pow_isP {p : Nat} (hpp : Pri p) {m : List Nat} (hm : IsP p m) (hm0 : 1 < m.length) : ∀ (k : Nat) (o f : List Nat) (e : Nat), IsP p o → IsP p f → o.length ≤ m.length - 1 → IsP p (powN p m k o f e) ∧ (powN p m k o f e).length ≤ m.length - 1
  | 0, o, f, e, ho, _, h => ⟨ho, h⟩
  | k + 1, o, f, e, ho, hf, h => by
    rw [powN]
    split
    · exact ⟨ho, h⟩
    · have h2 := mul_isP hpp hf hf
      refine pow_isP hpp hm hm0 k _ _ _ ?_ (rem_isP hpp h2 hm (by omega)) ?_
      · split
        · exact rem_isP hpp (mul_isP hpp ho hf) hm (by omega)
        · exact ho
      · split
        · have := rem_lt hpp (mul_isP hpp ho hf) hm (by omega); omega
        · exact h
theorem x_isP {p : Nat} (hpp : Pri p) : IsP p [0, 1] := by
  have := hpp.1
  refine ⟨fun c hc => ?_, .inr (by simp [co])⟩
  simp at hc
  omega
theorem xp_isP {p : Nat} (hpp : Pri p) {f : List Nat} (hf : IsP p f) (hf0 : 1 < f.length) : IsP p (xpL p f) ∧ (xpL p f).length ≤ f.length - 1 :=
  pow_isP hpp hf hf0 p [1] _ p (isP_one hpp) (rem_isP hpp (x_isP hpp) hf (by omega)) (by simp; omega)
theorem mat0_lt {p : Nat} (hpp : Pri p) {f x : List Nat} (hf : IsP p f) (hf0 : 1 < f.length) (hx : IsP p x) (n i j : Nat) : mat0 p n f x i j < p := by
  have h2 := hpp.1
  unfold mat0
  split
  · omega
  · split
    · exact Nat.mod_lt _ hpp.pos
    · exact (at_isP hpp hf hf0 hx i).1.co hpp.pos j
end Go.Poly
namespace Go.Proofs.Ytagfpnnplgkkoaa
open Go.W Go.Poly Go.Tree Go.RowKit
set_option maxRecDepth 100000
attribute [local irreducible] WC WL WQ WS WH

theorem nth_Ro {id : Nat → Nat} {M : Mat} {n m i : Nat} (h : i < m) : nth (Ro id M n m) i = some (.blk (id i) (.cells (ints (fl (2 * n) (M i))).toArray 3 (0, 0))) := by rw [nth_eq, Ro_at _ _ _ h]
theorem ints_fl_at {N k : Nat} (r : Nat → Nat) (h : k < N) : (ints (fl N r))[k]? = some (.int .i64 (r k : Nat)) := by simp [ints, fl, h]
theorem cells_set (xs : List Value) (i : Nat) (v : Value) : xs.toArray.setIfInBounds i v = (xs.set i v).toArray := by rw [← Array.toList_inj]; simp

theorem Hp.lay {w0 w : World} {q r B R A : Ent} {L : List Ent} (h : Hp w0 w (q :: r :: B :: R :: A :: L)) : Hp w0 w (R :: r :: (L ++ [B])) := by
  have h1 : Hp w0 w (r :: B :: R :: L) := h.subl (.cons _ (.cons_cons _ (.cons_cons _ (.cons_cons _ (.cons _ (List.Sublist.refl _))))))
  exact h1.permP (((List.Perm.swap R B L).cons r).trans ((List.Perm.swap R r (B :: L)).trans (((List.perm_append_comm (l₁ := [B]) (l₂ := L)).cons r).cons R)))
/-- What is known while the matrix is made into steps. -/
def KH (w : World) (bR : Nat) (id : Nat → Nat) (M : Mat) (n : Nat) (w' : World) : Prop := Hp w w' (.blk bR (.cells (rvs id n n).toArray 22 (0, 0)) :: Ro id M n n)

theorem KH.row {w w' : World} {bR : Nat} {id : Nat → Nat} {M : Mat} {n i : Nat} (h : KH w bR id M n w') (hi : i < n) : Sl w' (some ⟨id i, 0, none⟩) (ints (fl (2 * n) (M i))) :=
  Sl.of_obj (Hp.obj h (i + 1) (nth_Ro hi)) (fun q u hq => by simpa using hq)
theorem KH.rows {w w' : World} {bR : Nat} {id : Nat → Nat} {M : Mat} {n : Nat} (h : KH w bR id M n w') : Sl w' (some ⟨bR, 0, none⟩) (rvs id n n) :=
  Sl.of_obj (Hp.obj h 0 rfl) (fun q u hq => by simpa using hq)
theorem KH.set {w w' w'' : World} {bR : Nat} {id : Nat → Nat} {M : Mat} {n i : Nat} {r : Nat → Nat} (h : KH w bR id M n w') (hi : i < n) (hw : SetB w' (id i) (.cells (ints (fl (2 * n) r)).toArray 3 (0, 0)) w'') : KH w bR id (fun k => if k = i then r else M k) n w'' := by
  unfold KH
  rw [← Ro_set id M n hi r]
  exact Hp.set h (i + 1) (nth_Ro hi) rfl hw
theorem KH.congr {w w' : World} {bR : Nat} {id : Nat → Nat} {M M' : Mat} {n : Nat} (h : KH w bR id M n w') (h2 : ∀ i j, i < n → j < 2 * n → M i j = M' i j) : KH w bR id M' n w' := by
  unfold KH at h ⊢
  rw [← Ro_congr (fun i _ => rfl) h2]; exact h
theorem KH.keep {w w' w'' : World} {bR : Nat} {id : Nat → Nat} {M : Mat} {n : Nat} (h : KH w bR id M n w') (hw : w'.grownBy w'' none) : KH w bR id M n w'' := Hp.keep h hw
/-- A row of one's own, trimmed. -/
theorem trim_row {w0 w : World} {v : Value} {L : List Ent} (s : List Nat) (hl : s.length ≤ 1000000) (h : Hp w0 w (Rw v s :: L)) :
    Ret Try.prog 70 [v] w fun u w' => w' = w ∧ Hp w0 w' (Rw u (trimL s) :: L) := by
  obtain ⟨a, c, rfl, hs, _, hc⟩ := Pd.row h 0 rfl
  refine (trim_any a c s hc (by omega) w hs).mono ?_
  rintro _ w' ⟨rfl, rfl⟩
  exact ⟨rfl, row_cut h (trim_le s) (by rw [trim_len]; exact (ints_take _ _).symm)⟩
/-- A part of the elimination. -/
def elimP (p d c lead i0 : Nat) (M : Mat) : Mat := fun i j => if d < i ∧ i < i0 then (M i j + (p - M i c * lead % p) * M d j) % p else M i j
def rowP (p d t i j0 : Nat) (M M0 : Mat) : Mat := fun i' => if i' = i then (fun j => if j < j0 then (M0 i j + (p - t) * M0 d j) % p else M0 i j) else M i'

theorem sub1_val {p r : Nat} (hp0 : 0 < p) (hp : p ≤ 1021) (hr : r < p) : IntKind.i64.wrap ((r : Int) - 1) % (p : Int) = (((r + (p - 1)) % p : Nat) : Int) := by
  rw [wrap_mid (by omega) (by omega)]
  have h3 : (r : Int) - 1 = ((r + (p - 1) : Nat) : Int) + (p : Int) * (-1) := by omega
  rw [h3, Int.add_mul_emod_self_left, ← Int.natCast_emod]

set_option maxHeartbeats 1000000 in
theorem kernel_pd (p : Nat) (vf : Value) (f : List Nat) (hpp : Pri p) (hp : p ≤ 1021) (hf : IsP p f) (hf0 : 1 < f.length) (hlf : f.length ≤ 400) (w : World) (sf : Pd w vf f) :
    Ret Try.prog 89 [.int .i64 (p : Nat), vf] w fun u w' => ∃ pool : List (Value × List Nat), pool.map (·.2) = kernL p f ∧ Hp w w' (.row 22 1 u pool.length (pool.map (·.1)) :: pool.map fun e => Rw e.1 e.2) := by
  have hp0 := hpp.pos
  have hp2 := hpp.1
  have sf' := sf
  obtain ⟨fa, fc, rfl, -⟩ := sf
  obtain ⟨ix, lx⟩ := xp_isP hpp hf hf0
  have hat := at_isP hpp hf hf0 ix
  have hmt := mat0_lt hpp hf hf0 ix (f.length - 1)
  have hk : kernL p f = kernM p (f.length - 1) (mat0 p (f.length - 1) f (xpL p f)) := rfl
  rw [hk]
  have hm0 : mat0 p (f.length - 1) f (xpL p f) = fun i j => if j = (f.length - 1) + i then 1 else if j = i then (co (atL p f (xpL p f) i) i + (p - 1)) % p else co (atL p f (xpL p f) i) j := rfl
  have en : IntKind.i64.wrap ((f.length : Int) - 1) = ((f.length - 1 : Nat) : Int) := by rw [wrap_mid (by omega) (by omega)]; omega
  have hnl : f.length - 1 < f.length := by omega
  have hn1 : 0 < f.length - 1 := by omega
  have hn4 : f.length - 1 ≤ 400 := by omega
  generalize hnn : f.length - 1 = n at *
  refine enter Try.func89 rfl rfl ⟨rfl, rfl⟩ rfl ?_
  repeat (first | refine WC.seq ?_ | refine WC.reg ?_ | refine WL.pure rfl rfl rfl ?_ | refine WL.nil ?_ | refine WC.skip ?_ | refine WC.block ?_ | refine WC.condT rfl ?_ | refine WC.condF rfl ?_ | refine WL.off rfl rfl rfl ?_ | refine WL.off0 rfl rfl ?_ | refine WC.exit ?_ | refine blk_hit ?_ | refine blk_miss rfl ?_ | refine WC.ret ?_)
  refine WL.buildS (cs := ints [0, 1]) rfl rfl rfl rfl rfl rfl rfl rfl rfl ?_
  intro b0 w0 hb0
  have hp00 := (Hp.start w).new hb0
  have hx0 : Hp w w0 [Rw (.slice (some ⟨b0, 0, none⟩) 2 2) [0, 1]] := hp00.toRow (m := 2) (s := 1) rfl (by decide)
  have xr := rem_isP hpp (x_isP hpp) hf (by omega)
  have xl := rem_lt hpp (x_isP hpp) hf (by omega)
  repeat (first | refine WC.seq ?_ | refine WC.reg ?_ | refine WL.pure rfl rfl rfl ?_ | refine WL.nil ?_ | refine WC.skip ?_ | refine WC.block ?_ | refine WC.condT rfl ?_ | refine WC.condF rfl ?_ | refine WL.off rfl rfl rfl ?_ | refine WL.off0 rfl rfl ?_ | refine WC.exit ?_ | refine blk_hit ?_ | refine blk_miss rfl ?_ | refine WC.ret ?_)
  refine WL.call rfl rfl rfl rfl rfl ent48 (div_pd p _ _ [0, 1] f hpp hp (x_isP hpp) hf (by omega) (by simp) (by omega) w0 (Pd.row hx0 0 rfl) (sf'.hp hx0)) ?_
  rintro _ w1 ⟨q, r, rfl, hp1⟩
  have sr := Pd.row hp1 1 rfl
  have hp1 := hx0.nil'.over hp1.nil'
  have sf1 := sf'.hp hp1
  repeat (first | refine WC.seq ?_ | refine WC.reg ?_ | refine WL.pure rfl rfl rfl ?_ | refine WL.nil ?_ | refine WC.skip ?_ | refine WC.block ?_ | refine WC.condT rfl ?_ | refine WC.condF rfl ?_ | refine WL.off rfl rfl rfl ?_ | refine WL.off0 rfl rfl ?_ | refine WC.exit ?_ | refine blk_hit ?_ | refine blk_miss rfl ?_ | refine WC.ret ?_)
  refine WL.call rfl rfl rfl rfl rfl ent110 (power_pd p p r _ _ f hpp hp xr hf hf0 (by omega) hlf (by omega) w1 sr sf1) ?_
  rintro vx w2 hp2
  have sx := Pd.row hp2 0 rfl
  rw [show powL p (remL p [0, 1] f) p f = xpL p f from rfl] at sx
  generalize xpL p f = x at *
  have sf2 := sf1.hp hp2
  have hp2 := hp1.over hp2.nil'
  clear hp1 sr sf1 sf' hx0 hp00 hb0
  repeat (first | refine WC.seq ?_ | refine WC.reg ?_ | refine WL.pure rfl rfl rfl ?_ | refine WL.nil ?_ | refine WC.skip ?_ | refine WC.block ?_ | refine WC.condT rfl ?_ | refine WC.condF rfl ?_ | refine WL.off rfl rfl rfl ?_ | refine WL.off0 rfl rfl ?_ | refine WC.exit ?_ | refine blk_hit ?_ | refine blk_miss rfl ?_ | refine WC.ret ?_)
  refine WL.known (d := 36) (congrArg (fun z => some (Value.int .i64 z)) en) ?_
  refine WL.make (m := n) rfl rfl rfl rfl rfl rfl rfl rfl ?_ ?_ ?_
  · show 24 * n ≤ _; omega
  · unfold maxLen; omega
  intro bR w3 hbR
  have hp3 := (Hp.start w2).new hbR
  repeat (first | refine WC.seq ?_ | refine WC.reg ?_ | refine WL.pure rfl rfl rfl ?_ | refine WL.nil ?_ | refine WC.skip ?_ | refine WC.block ?_ | refine WC.condT rfl ?_ | refine WC.condF rfl ?_ | refine WL.off rfl rfl rfl ?_ | refine WL.off0 rfl rfl ?_ | refine WC.exit ?_ | refine blk_hit ?_ | refine blk_miss rfl ?_ | refine WC.ret ?_)
  refine WL.buildS (cs := ints [1]) rfl rfl rfl rfl rfl rfl rfl rfl rfl ?_
  intro b1 w4 hb1
  have hp4 := hp3.new hb1
  have hr4 : Hp w2 w4 [Rw (.slice (some ⟨b1, 0, none⟩) 1 1) [1], _] := hp4.toRow (m := 1) (s := 1) rfl (by decide)
  have hrep : List.replicate n (Value.slice none 0 0) = rvs (fun _ => 0) n 0 := by
    apply List.ext_getElem?
    intro j
    by_cases h : j < n
    · simp [rvs, h]
    · rw [List.getElem?_eq_none (by simp; omega), List.getElem?_eq_none (by rw [rvs_len]; omega)]
  have hl0 : Hp w2 w4 (.blk bR (.cells (rvs (fun _ => 0) n 0).toArray 22 (0, 0)) :: Rw (.slice (some ⟨b1, 0, none⟩) 1 1) (atL p f x 0) :: Ro (fun _ => 0) (mat0 p n f x) n 0) := by
    have := hr4.swap
    rw [show ti22.zero = Value.slice none 0 0 from rfl, hrep] at this
    exact this
  clear hr4 hp4 hb1 hp3 hbR hrep
  repeat (first | refine WC.seq ?_ | refine WC.reg ?_ | refine WL.pure rfl rfl rfl ?_ | refine WL.nil ?_ | refine WC.skip ?_ | refine WC.block ?_ | refine WC.condT rfl ?_ | refine WC.condF rfl ?_ | refine WL.off rfl rfl rfl ?_ | refine WL.off0 rfl rfl ?_ | refine WC.exit ?_ | refine blk_hit ?_ | refine blk_miss rfl ?_ | refine WC.ret ?_)
  refine WC.loop (Nat × Value × (Nat → Nat)) (fun (i, va, id) => [(0, .int .i64 (p : Nat)), (1, .slice fa f.length fc), (5, .int .i64 (n : Nat)), (7, vx), (8, .slice (some ⟨bR, 0, none⟩) n n), (9, va), (40, .int .i64 (n : Nat)), (41, .int .i64 (i : Nat))])
    (fun (i, va, id) w' => i ≤ n ∧ Hp w2 w' (.blk bR (.cells (rvs id n i).toArray 22 (0, 0)) :: Rw va (atL p f x i) :: Ro id (mat0 p n f x) n i)) (fun (i, _) => n - i) (0, _, fun _ => 0) ⟨rfl, rfl, congrArg (fun z => some (Value.int .i64 z)) en, rfl, rfl, rfl, rfl, rfl, rfl⟩ ⟨Nat.zero_le _, hl0⟩ ?_
  clear hl0
  clear b1 w4 w3
  rintro ⟨i, va, id⟩ w3 ⟨hi, hp3⟩
  repeat (first | refine WC.seq ?_ | refine WC.reg ?_ | refine WL.pure rfl rfl rfl ?_ | refine WL.nil ?_ | refine WC.skip ?_ | refine WC.block ?_ | refine WC.condT rfl ?_ | refine WC.condF rfl ?_ | refine WL.off rfl rfl rfl ?_ | refine WL.off0 rfl rfl ?_ | refine WC.exit ?_ | refine blk_hit ?_ | refine blk_miss rfl ?_ | refine WC.ret ?_)
  refine WC.cond rfl (fun hc => ?_) (fun hc => ?_)
  · have hi : i < n := by have := of_decide_eq_true hc; omega
    have step : IntKind.i64.wrap ((i : Int) + 1) = ((i + 1 : Nat) : Int) := by rw [wrap_i64_in (by omega) (by omega)]; omega
    have e2n : IntKind.i64.wrap (2 * (n : Int)) = ((2 * n : Nat) : Int) := by rw [wrap_i64_in (by omega) (by omega)]; omega
    have eni : IntKind.i64.wrap ((n : Int) + (i : Int)) = ((n + i : Nat) : Int) := by rw [wrap_i64_in (by omega) (by omega)]; omega
    have ja := (hat i).1
    have la := (hat i).2
    obtain ⟨aa, ac, rfl, -, hna, hca⟩ := Pd.row hp3 1 rfl
    repeat (first | refine WC.seq ?_ | refine WC.reg ?_ | refine WL.pure rfl rfl rfl ?_ | refine WL.nil ?_ | refine WC.skip ?_ | refine WC.block ?_ | refine WC.condT rfl ?_ | refine WC.condF rfl ?_ | refine WL.off rfl rfl rfl ?_ | refine WL.off0 rfl rfl ?_ | refine WC.exit ?_ | refine blk_hit ?_ | refine blk_miss rfl ?_ | refine WC.ret ?_)
    refine WL.known (d := 47) (congrArg (fun z => some (Value.int .i64 z)) e2n) ?_
    refine WL.make (m := 2 * n) rfl rfl rfl rfl rfl rfl rfl rfl ?_ ?_ ?_
    · show 8 * (2 * n) ≤ _; omega
    · unfold maxLen; omega
    intro b w4 hb
    have hp4 := hp3.new hb
    refine WL.ix1 rfl rfl rfl rfl rfl rfl rfl (j := i) hi ?_
    refine WL.store rfl rfl rfl rfl rfl rfl (hp4.obj 1 rfl) (by rw [Nat.zero_add]; simp [rvs_len]; omega) (fun w5 hw5 => ?_)
    rw [Nat.zero_add, cells_set, rvs_set id hi] at hw5
    have hp5 := hp4.set 1 rfl rfl hw5
    have hid : ∀ j, j < i → id j = (fun j => if j = i then b else id j) j := fun j hj => by simp only; rw [if_neg (by omega)]
    rw [Ro_congr (M' := mat0 p n f x) hid (fun _ _ _ _ => rfl)] at hp5
    have hbi : (fun j => if j = i then b else id j) i = b := by simp
    generalize (fun j => if j = i then b else id j) = id' at *
    have hv : (rvs id' n (i + 1))[i]? = some (.slice (some ⟨b, 0, none⟩) (2 * n) (2 * n)) := by rw [rvs_at _ hi (by omega), rv, hbi]
    have cell : ∀ {w' : World} {L : List Ent} {o : Obj}, Hp w2 w' (.blk b o :: .blk bR (.cells (rvs id' n (i + 1)).toArray 22 (0, 0)) :: L) → Sl w' (some ⟨bR, 0, none⟩) (rvs id' n (i + 1)) := fun h => Sl.of_obj (h.obj 1 rfl) (fun q u hq => by simpa using hq)
    obtain ⟨_, _, hh, sa5, -, -⟩ := Pd.row hp5 2 rfl
    simp only [Value.slice.injEq, true_and] at hh
    obtain ⟨rfl, rfl⟩ := hh
    repeat (first | refine WC.seq ?_ | refine WC.reg ?_ | refine WL.pure rfl rfl rfl ?_ | refine WL.nil ?_ | refine WC.skip ?_ | refine WC.block ?_ | refine WC.condT rfl ?_ | refine WC.condF rfl ?_ | refine WL.off rfl rfl rfl ?_ | refine WL.off0 rfl rfl ?_ | refine WC.exit ?_ | refine blk_hit ?_ | refine blk_miss rfl ?_ | refine WC.ret ?_)
    refine WL.ixload rfl (fun _ => rfl) rfl rfl rfl rfl rfl rfl rfl hi rfl rfl (cell hp5) hv ?_
    intro pa
    repeat (first | refine WC.seq ?_ | refine WC.reg ?_ | refine WL.pure rfl rfl rfl ?_ | refine WL.nil ?_ | refine WC.skip ?_ | refine WC.block ?_ | refine WC.condT rfl ?_ | refine WC.condF rfl ?_ | refine WL.off rfl rfl rfl ?_ | refine WL.off0 rfl rfl ?_ | refine WC.exit ?_ | refine blk_hit ?_ | refine blk_miss rfl ?_ | refine WC.ret ?_)
    refine WL.copyF rfl rfl rfl rfl rfl rfl rfl (fun h => by have := hna h; omega) (show (atL p f x i).length ≤ 2 * n by omega) (hp5.obj 0 rfl) sa5 (ints_len _) (by simp) (ints_cells _) ?_
    intro w6 hw6
    have hz : (ints (atL p f x i) ++ ((List.replicate (2 * n) ti3.zero).toArray.toList.drop (atL p f x i).length)) = ints (fl (2 * n) (co (atL p f x i))) := by
      rw [show ti3.zero = Value.int .i64 0 from rfl]
      apply List.ext_getElem?
      intro j
      by_cases h1 : j < (atL p f x i).length
      · rw [List.getElem?_append_left (by rw [ints_len]; exact h1), ints_at h1, ints_fl_at _ (by omega)]
      · rw [List.getElem?_append_right (by rw [ints_len]; omega)]
        by_cases h2 : j < 2 * n
        · rw [ints_fl_at _ h2, co_out (by omega), List.getElem?_drop, ints_len, show (atL p f x i).length + (j - (atL p f x i).length) = j by omega]
          simp [h2]
        · rw [List.getElem?_eq_none (by simp [ints_len]; omega), List.getElem?_eq_none (by simp [ints_len, fl_len]; omega)]
    rw [hz] at hw6
    have hp6 := hp5.set 0 rfl rfl hw6
    have hco := ja.co hp0 i
    have es := sub1_val hp0 hp hco
    repeat (first | refine WC.seq ?_ | refine WC.reg ?_ | refine WL.pure rfl rfl rfl ?_ | refine WL.nil ?_ | refine WC.skip ?_ | refine WC.block ?_ | refine WC.condT rfl ?_ | refine WC.condF rfl ?_ | refine WL.off rfl rfl rfl ?_ | refine WL.off0 rfl rfl ?_ | refine WC.exit ?_ | refine blk_hit ?_ | refine blk_miss rfl ?_ | refine WC.ret ?_)
    refine WC.regS 16 mixed (by kernel_rfl) rfl rfl (fun w7 hw7 hh7 => ?_)
    have hp7 := hp6.keep hw7
    repeat (first | refine WS.pure rfl rfl rfl ?_ | refine WS.off rfl rfl rfl ?_ | refine WS.nil ?_)
    refine WS.ix1 rfl rfl rfl rfl rfl rfl rfl (j := i) hi ?_
    refine WS.load rfl rfl rfl rfl rfl (Sl.cell (cell hp7) hv) ?_
    repeat (first | refine WS.pure rfl rfl rfl ?_ | refine WS.off rfl rfl rfl ?_ | refine WS.nil ?_)
    refine WS.ix1 rfl rfl rfl rfl rfl rfl rfl (j := i) hi ?_
    refine WS.load rfl rfl rfl rfl rfl (Sl.cell (cell hp7) hv) ?_
    repeat (first | refine WS.pure rfl rfl rfl ?_ | refine WS.off rfl rfl rfl ?_ | refine WS.nil ?_)
    refine WS.ix1 rfl rfl rfl rfl rfl rfl rfl (j := i) (by omega) ?_
    refine WS.loadB rfl rfl rfl rfl rfl (hp7.obj 0 rfl) (j := 0 + i) (by rw [nth_eq, Nat.zero_add]; exact ints_fl_at _ (by omega)) ?_
    repeat (first | refine WS.pure rfl rfl rfl ?_ | refine WS.off rfl rfl rfl ?_ | refine WS.nil ?_)
    refine WS.call rfl rfl rfl rfl rfl ent54 (mod_any p _ hp0 (by omega) w7) ?_
    refine WS.known (d := 70) (congrArg (fun z => some (Value.int .i64 z)) es) ?_
    refine WS.ix1 rfl rfl rfl rfl rfl rfl rfl (j := i) (by omega) ?_
    repeat (first | refine WS.pure rfl rfl rfl ?_ | refine WS.off rfl rfl rfl ?_ | refine WS.nil ?_)
    refine WL.store rfl rfl rfl rfl rfl rfl (hp7.obj 0 rfl) (by simp [ints, fl]; omega) (fun w8 hw8 => ?_)
    rw [Nat.zero_add, ints_set, fl_set] at hw8
    have hp8 := hp7.set 0 rfl rfl hw8
    repeat (first | refine WC.seq ?_ | refine WC.reg ?_ | refine WL.pure rfl rfl rfl ?_ | refine WL.nil ?_ | refine WC.skip ?_ | refine WC.block ?_ | refine WC.condT rfl ?_ | refine WC.condF rfl ?_ | refine WL.off rfl rfl rfl ?_ | refine WL.off0 rfl rfl ?_ | refine WC.exit ?_ | refine blk_hit ?_ | refine blk_miss rfl ?_ | refine WC.ret ?_)
    refine WL.ixload rfl (fun _ => rfl) rfl rfl rfl rfl rfl rfl rfl hi rfl rfl (cell hp8) hv ?_
    intro pb
    repeat (first | refine WC.seq ?_ | refine WC.reg ?_ | refine WL.pure rfl rfl rfl ?_ | refine WL.nil ?_ | refine WC.skip ?_ | refine WC.block ?_ | refine WC.condT rfl ?_ | refine WC.condF rfl ?_ | refine WL.off rfl rfl rfl ?_ | refine WL.off0 rfl rfl ?_ | refine WC.exit ?_ | refine blk_hit ?_ | refine blk_miss rfl ?_ | refine WC.ret ?_)
    refine WL.known (d := 78) (congrArg (fun z => some (Value.int .i64 z)) eni) ?_
    refine WL.ix1 rfl rfl rfl rfl rfl rfl rfl (j := n + i) (by omega) ?_
    refine WL.store rfl rfl rfl rfl rfl rfl (hp8.obj 0 rfl) (by simp [ints, fl]; omega) (fun w9 hw9 => ?_)
    have eone : Value.int .i64 1 = Value.int .i64 ((1 : Nat) : Int) := rfl
    rw [Nat.zero_add, eone, ints_set, fl_set] at hw9
    have hp9 := hp8.set 0 rfl rfl hw9
    have hrow : (fl (2 * n) fun j => if j = n + i then 1 else if j = i then (co (atL p f x i) i + (p - 1)) % p else co (atL p f x i) j) = fl (2 * n) (mat0 p n f x i) := rfl
    rw [hrow] at hp9
    have sa9 := Pd.row hp9 2 rfl
    have sx9 := sx.hp hp9
    have mi := mul_isP hpp ja ix
    have ml := mul_len_le p (atL p f x i) x
    repeat (first | refine WC.seq ?_ | refine WC.reg ?_ | refine WL.pure rfl rfl rfl ?_ | refine WL.nil ?_ | refine WC.skip ?_ | refine WC.block ?_ | refine WC.condT rfl ?_ | refine WC.condF rfl ?_ | refine WL.off rfl rfl rfl ?_ | refine WL.off0 rfl rfl ?_ | refine WC.exit ?_ | refine blk_hit ?_ | refine blk_miss rfl ?_ | refine WC.ret ?_)
    refine WL.call rfl rfl rfl rfl rfl ent42 (mul_pd p _ vx _ x hpp hp ja ix (by omega) (by omega) w9 sa9 sx9) ?_
    rintro vm wa hpa
    repeat (first | refine WC.seq ?_ | refine WC.reg ?_ | refine WL.pure rfl rfl rfl ?_ | refine WL.nil ?_ | refine WC.skip ?_ | refine WC.block ?_ | refine WC.condT rfl ?_ | refine WC.condF rfl ?_ | refine WL.off rfl rfl rfl ?_ | refine WL.off0 rfl rfl ?_ | refine WC.exit ?_ | refine blk_hit ?_ | refine blk_miss rfl ?_ | refine WC.ret ?_)
    refine WL.call rfl rfl rfl rfl rfl ent48 (div_pd p vm _ _ f hpp hp mi hf (by omega) (by omega) (by omega) wa (Pd.row hpa 0 rfl) ((sf2.hp hp9).hp hpa)) ?_
    rintro _ wb ⟨q2, r2, rfl, hpb⟩
    have hpb := hp9.comb (hpa.nil'.over hpb)
    repeat (first | refine WC.seq ?_ | refine WC.reg ?_ | refine WL.pure rfl rfl rfl ?_ | refine WL.nil ?_ | refine WC.skip ?_ | refine WC.block ?_ | refine WC.condT rfl ?_ | refine WC.condF rfl ?_ | refine WL.off rfl rfl rfl ?_ | refine WL.off0 rfl rfl ?_ | refine WC.exit ?_ | refine blk_hit ?_ | refine blk_miss rfl ?_ | refine WC.ret ?_)
    refine ⟨(i + 1, r2, id'), by show n - (i + 1) < n - i; omega, ⟨rfl, rfl, rfl, rfl, rfl, rfl, rfl, congrArg (fun z => some (Value.int .i64 z)) step, rfl⟩, hi, ?_⟩
    rw [Ro_succ, hbi]
    exact Hp.lay hpb
  · have hi : i = n := by have := of_decide_eq_false hc; omega
    subst hi
    have kh : KH w2 bR id (mat0 p i f x) i w3 := hp3.drop1
    clear hp3 hc hat ix lx en
    generalize mat0 p i f x = M0 at *
    repeat (first | refine WC.seq ?_ | refine WC.reg ?_ | refine WL.pure rfl rfl rfl ?_ | refine WL.nil ?_ | refine WC.skip ?_ | refine WC.block ?_ | refine WC.condT rfl ?_ | refine WC.condF rfl ?_ | refine WL.off rfl rfl rfl ?_ | refine WL.off0 rfl rfl ?_ | refine WC.exit ?_ | refine blk_hit ?_ | refine blk_miss rfl ?_ | refine WC.ret ?_)
    refine WC.loop (Nat × Nat × (Nat → Nat) × Mat) (fun (c, d, id, M) => [(0, .int .i64 (p : Nat)), (5, .int .i64 (i : Nat)), (8, .slice (some ⟨bR, 0, none⟩) i i), (11, .int .i64 (d : Nat)), (91, .int .i64 (i : Nat)), (92, .int .i64 (c : Nat))])
      (fun (c, d, id, M) w' => c ≤ i ∧ d ≤ c ∧ (∀ i j, M i j < p) ∧ elimG p i c (0, M0) = (d, M) ∧ KH w2 bR id M i w') (fun (c, _) => i - c) (0, 0, id, M0) ⟨rfl, rfl, rfl, rfl, rfl, rfl, rfl⟩ ⟨Nat.zero_le _, Nat.le_refl _, hmt, rfl, kh⟩ ?_
    clear kh id w3
    rintro ⟨c, d, id, M⟩ w3 ⟨hci, hdc, hM, hG, kh⟩
    repeat (first | refine WC.seq ?_ | refine WC.reg ?_ | refine WL.pure rfl rfl rfl ?_ | refine WL.nil ?_ | refine WC.skip ?_ | refine WC.block ?_ | refine WC.condT rfl ?_ | refine WC.condF rfl ?_ | refine WL.off rfl rfl rfl ?_ | refine WL.off0 rfl rfl ?_ | refine WC.exit ?_ | refine blk_hit ?_ | refine blk_miss rfl ?_ | refine WC.ret ?_)
    refine WC.cond rfl (fun hc => ?_) (fun hc => ?_)
    · have hc : c < i := by have := of_decide_eq_true hc; omega
      have stepc : IntKind.i64.wrap ((c : Int) + 1) = ((c + 1 : Nat) : Int) := by rw [wrap_i64_in (by omega) (by omega)]; omega
      have stepd : IntKind.i64.wrap ((d : Int) + 1) = ((d + 1 : Nat) : Int) := by rw [wrap_i64_in (by omega) (by omega)]; omega
      have hE : elimG p i (c + 1) (0, M0) = elim1 p i c (d, M) := by rw [elimG, hG]
      unfold elim1 at hE
      simp only at hE
      obtain ⟨K, hK⟩ : ∃ K, findK M i c i d = K := ⟨_, rfl⟩
      rw [hK] at hE
      repeat (first | refine WC.seq ?_ | refine WC.reg ?_ | refine WL.pure rfl rfl rfl ?_ | refine WL.nil ?_ | refine WC.skip ?_ | refine WC.block ?_ | refine WC.condT rfl ?_ | refine WC.condF rfl ?_ | refine WL.off rfl rfl rfl ?_ | refine WL.off0 rfl rfl ?_ | refine WC.exit ?_ | refine blk_hit ?_ | refine blk_miss rfl ?_ | refine WC.ret ?_)
      refine WC.loop (Nat × Nat) (fun (r, k) => [(0, .int .i64 (p : Nat)), (5, .int .i64 (i : Nat)), (8, .slice (some ⟨bR, 0, none⟩) i i), (11, .int .i64 (d : Nat)), (91, .int .i64 (i : Nat)), (92, .int .i64 (c : Nat)), (12, .int .i64 (c : Nat)), (13, .int .i64 (k : Nat))])
        (fun (r, k) w' => w' = w3 ∧ k ≤ i ∧ d ≤ k ∧ i ≤ k + r ∧ findK M i c r k = K) (fun (r, k) => i - k) (i, d) ⟨rfl, rfl, rfl, rfl, rfl, rfl, rfl, rfl, rfl⟩ ⟨rfl, by omega, Nat.le_refl _, by omega, hK⟩ ?_
      rintro ⟨r, k⟩ w4 ⟨rfl, hki, hdk, hkr, hF⟩
      repeat (first | refine WC.seq ?_ | refine WC.skip ?_ | refine WC.block ?_)
      refine WC.mid Unit (fun _ => [(0, .int .i64 (p : Nat)), (5, .int .i64 (i : Nat)), (8, .slice (some ⟨bR, 0, none⟩) i i), (11, .int .i64 (d : Nat)), (91, .int .i64 (i : Nat)), (92, .int .i64 (c : Nat)), (12, .int .i64 (c : Nat)), (13, .int .i64 (k : Nat)), (108, .bool (decide (k < i ∧ M k c = 0)))]) (fun _ w' => w' = w4) ?_ ?_
      · repeat (first | refine WC.seq ?_ | refine WC.reg ?_ | refine WL.pure rfl rfl rfl ?_ | refine WL.nil ?_ | refine WC.skip ?_ | refine WC.block ?_ | refine WC.condT rfl ?_ | refine WC.condF rfl ?_ | refine WL.off rfl rfl rfl ?_ | refine WL.off0 rfl rfl ?_ | refine WC.exit ?_ | refine blk_hit ?_ | refine blk_miss rfl ?_ | refine WC.ret ?_)
        refine WL.split 99 rfl (fun h1 => ?_) (fun h1 => ?_)
        · have h1 : k < i := by have := of_decide_eq_true h1; omega
          repeat (first | refine WC.seq ?_ | refine WC.reg ?_ | refine WL.pure rfl rfl rfl ?_ | refine WL.nil ?_ | refine WC.skip ?_ | refine WC.block ?_ | refine WC.condT rfl ?_ | refine WC.condF rfl ?_ | refine WL.off rfl rfl rfl ?_ | refine WL.off0 rfl rfl ?_ | refine WC.exit ?_ | refine blk_hit ?_ | refine blk_miss rfl ?_ | refine WC.ret ?_)
          refine WL.ixload rfl (fun _ => rfl) rfl rfl rfl rfl rfl rfl rfl h1 rfl rfl kh.rows (rvs_at _ h1 h1) ?_
          intro pa
          repeat (first | refine WC.seq ?_ | refine WC.reg ?_ | refine WL.pure rfl rfl rfl ?_ | refine WL.nil ?_ | refine WC.skip ?_ | refine WC.block ?_ | refine WC.condT rfl ?_ | refine WC.condF rfl ?_ | refine WL.off rfl rfl rfl ?_ | refine WL.off0 rfl rfl ?_ | refine WC.exit ?_ | refine blk_hit ?_ | refine blk_miss rfl ?_ | refine WC.ret ?_)
          refine WL.ixload rfl (fun _ => rfl) rfl rfl rfl rfl rfl rfl rfl (show c < 2 * i by omega) rfl rfl (kh.row h1) (ints_fl_at _ (show c < 2 * i by omega)) ?_
          intro pb
          have e9 : (((M k c : Nat) : Int) == 0) = decide (k < i ∧ M k c = 0) := by
            by_cases h2 : M k c = 0
            · simp [h1, h2]
            · simp [h1, h2]
          repeat (first | refine WC.seq ?_ | refine WC.reg ?_ | refine WL.pure rfl rfl rfl ?_ | refine WL.nil ?_ | refine WC.skip ?_ | refine WC.block ?_ | refine WC.condT rfl ?_ | refine WC.condF rfl ?_ | refine WL.off rfl rfl rfl ?_ | refine WL.off0 rfl rfl ?_ | refine WC.exit ?_ | refine blk_hit ?_ | refine blk_miss rfl ?_ | refine WC.ret ?_)
          exact ⟨(), ⟨rfl, rfl, rfl, rfl, rfl, rfl, rfl, rfl, congrArg (fun b => some (Value.bool b)) e9, rfl⟩, rfl⟩
        · have h1 : ¬ k < i := by have := of_decide_eq_false h1; omega
          have e9 : false = decide (k < i ∧ M k c = 0) := (decide_eq_false (fun h => h1 h.1)).symm
          repeat (first | refine WC.seq ?_ | refine WC.reg ?_ | refine WL.pure rfl rfl rfl ?_ | refine WL.nil ?_ | refine WC.skip ?_ | refine WC.block ?_ | refine WC.condT rfl ?_ | refine WC.condF rfl ?_ | refine WL.off rfl rfl rfl ?_ | refine WL.off0 rfl rfl ?_ | refine WC.exit ?_ | refine blk_hit ?_ | refine blk_miss rfl ?_ | refine WC.ret ?_)
          exact ⟨(), ⟨rfl, rfl, rfl, rfl, rfl, rfl, rfl, rfl, congrArg (fun b => some (Value.bool b)) e9, rfl⟩, rfl⟩
      rintro ⟨⟩ e4 w5 hsub rfl
      refine WC.sub hsub ?_
      clear hsub
      repeat (first | refine WC.seq ?_ | refine WC.reg ?_ | refine WL.pure rfl rfl rfl ?_ | refine WL.nil ?_ | refine WC.skip ?_ | refine WC.block ?_ | refine WC.condT rfl ?_ | refine WC.condF rfl ?_ | refine WL.off rfl rfl rfl ?_ | refine WL.off0 rfl rfl ?_ | refine WC.exit ?_ | refine blk_hit ?_ | refine blk_miss rfl ?_ | refine WC.ret ?_)
      refine WC.cond rfl (fun h1 => ?_) (fun h1 => ?_)
      · have h1 := of_decide_eq_true h1
        obtain ⟨r, rfl⟩ : ∃ q, r = q + 1 := ⟨r - 1, by omega⟩
        rw [findK, if_pos h1] at hF
        have stepk : IntKind.i64.wrap ((k : Int) + 1) = ((k + 1 : Nat) : Int) := by rw [wrap_i64_in (by omega) (by omega)]; omega
        repeat (first | refine WC.seq ?_ | refine WC.reg ?_ | refine WL.pure rfl rfl rfl ?_ | refine WL.nil ?_ | refine WC.skip ?_ | refine WC.block ?_ | refine WC.condT rfl ?_ | refine WC.condF rfl ?_ | refine WL.off rfl rfl rfl ?_ | refine WL.off0 rfl rfl ?_ | refine WC.exit ?_ | refine blk_hit ?_ | refine blk_miss rfl ?_ | refine WC.ret ?_)
        exact ⟨(r, k + 1), by show i - (k + 1) < i - k; omega, ⟨rfl, rfl, rfl, rfl, rfl, rfl, rfl, congrArg (fun z => some (Value.int .i64 z)) stepk, rfl⟩, rfl, h1.1, by omega, by omega, hF⟩
      · have h1 := of_decide_eq_false h1
        have hF : k = K := by rw [← hF]; cases r with
          | zero => rfl
          | succ r => rw [findK, if_neg h1]
        subst hF
        repeat (first | refine WC.seq ?_ | refine WC.reg ?_ | refine WL.pure rfl rfl rfl ?_ | refine WL.nil ?_ | refine WC.skip ?_ | refine WC.block ?_ | refine WC.condT rfl ?_ | refine WC.condF rfl ?_ | refine WL.off rfl rfl rfl ?_ | refine WL.off0 rfl rfl ?_ | refine WC.exit ?_ | refine blk_hit ?_ | refine blk_miss rfl ?_ | refine WC.ret ?_)
        refine WC.cond rfl (fun h2 => ?_) (fun h2 => ?_)
        · have h2 : k = i := by
            have : (k : Int) = (i : Int) := by simpa using h2
            omega
          rw [if_neg (by omega)] at hE
          repeat (first | refine WC.seq ?_ | refine WC.reg ?_ | refine WL.pure rfl rfl rfl ?_ | refine WL.nil ?_ | refine WC.skip ?_ | refine WC.block ?_ | refine WC.condT rfl ?_ | refine WC.condF rfl ?_ | refine WL.off rfl rfl rfl ?_ | refine WL.off0 rfl rfl ?_ | refine WC.exit ?_ | refine blk_hit ?_ | refine blk_miss rfl ?_ | refine WC.ret ?_)
          exact ⟨(c + 1, d, id, M), by show i - (c + 1) < i - c; omega, ⟨rfl, rfl, rfl, rfl, rfl, congrArg (fun z => some (Value.int .i64 z)) stepc, rfl⟩, hc, by omega, hM, hE, kh⟩
        · have h2 : k < i := by
            have : (k : Int) ≠ (i : Int) := by simpa using h2
            omega
          rw [if_pos h2] at hE
          have hMk : M k c ≠ 0 := fun h => h1 ⟨h2, h⟩
          have hdi : d < i := by omega
          repeat (first | refine WC.seq ?_ | refine WC.reg ?_ | refine WL.pure rfl rfl rfl ?_ | refine WL.nil ?_ | refine WC.skip ?_ | refine WC.block ?_ | refine WC.condT rfl ?_ | refine WC.condF rfl ?_ | refine WL.off rfl rfl rfl ?_ | refine WL.off0 rfl rfl ?_ | refine WC.exit ?_ | refine blk_hit ?_ | refine blk_miss rfl ?_ | refine WC.ret ?_)
          refine WC.mid Unit (fun _ => [(0, .int .i64 (p : Nat)), (5, .int .i64 (i : Nat)), (8, .slice (some ⟨bR, 0, none⟩) i i), (11, .int .i64 (d : Nat)), (91, .int .i64 (i : Nat)), (92, .int .i64 (c : Nat)), (12, .int .i64 (c : Nat)), (13, .int .i64 (k : Nat))]) (fun _ w' => KH w2 bR (swapI id d k) (swapM M d k) i w') ?_ ?_
          · refine WC.regH (fun _ => True) mixed (by kernel_rfl) (fun w6 hw6 hh6 => ?_)
            have kh6 := kh.keep hw6
            have done : ∀ w7, Hp w2 w7 (.blk bR (.cells (((rvs id i i).set d (rv id i k)).set k (rv id i d)).toArray 22 (0, 0)) :: Ro id M i i) → KH w2 bR (swapI id d k) (swapM M d k) i w7 := by
              intro w7 h
              rw [rvs_swap id hdi h2] at h
              exact h.permP (List.Perm.cons _ (Ro_swap id M i hdi h2).symm)
            refine WH.pure 0 (by kernel_rfl) rfl (by kernel_rfl) rfl rfl rfl trivial ?_
            refine WH.pure 1 (by kernel_rfl) rfl (by kernel_rfl) rfl rfl rfl trivial ?_
            refine WH.pure 2 (by kernel_rfl) rfl (by kernel_rfl) rfl rfl rfl trivial ?_
            refine WH.pure 3 (by kernel_rfl) rfl (by kernel_rfl) rfl rfl rfl trivial ?_
            refine WH.pure 4 (by kernel_rfl) rfl (by kernel_rfl) rfl rfl rfl trivial ?_
            refine WH.pure 5 (by kernel_rfl) rfl (by kernel_rfl) rfl rfl rfl trivial ?_
            refine WH.ix1 6 (by kernel_rfl) rfl (by kernel_rfl) rfl rfl rfl rfl rfl rfl rfl h2 trivial ?_
            refine WH.pure 8 (by kernel_rfl) rfl (by kernel_rfl) rfl rfl rfl trivial ?_
            refine WH.pure 9 (by kernel_rfl) rfl (by kernel_rfl) rfl rfl rfl trivial ?_
            refine WH.ix1 10 (by kernel_rfl) rfl (by kernel_rfl) rfl rfl rfl rfl rfl rfl rfl hdi trivial ?_
            refine WH.two 7 11 rfl rfl (by kernel_rfl) ?_ ?_
            · refine WL.load rfl rfl rfl rfl rfl (Sl.cell kh6.rows (rvs_at _ h2 h2)) (WL.nil ⟨trivial, ?_⟩)
              refine WH.one 11 rfl (by kernel_rfl) ?_
              refine WL.load rfl rfl rfl rfl rfl (Sl.cell kh6.rows (rvs_at _ hdi hdi)) (WL.nil ⟨trivial, ?_⟩)
              refine WH.ix1 12 (by kernel_rfl) rfl (by kernel_rfl) rfl rfl rfl rfl rfl rfl rfl hdi trivial ?_
              refine WH.one 13 rfl (by kernel_rfl) ?_
              refine WL.store rfl rfl rfl rfl rfl rfl (Hp.obj kh6 0 rfl) (by rw [Nat.zero_add]; simp [rvs_len]; omega) (fun w7 hw7 => WL.nil ⟨trivial, ?_⟩)
              rw [Nat.zero_add, cells_set] at hw7
              have hp7 := Hp.set kh6 0 rfl rfl hw7
              refine WH.ix1 14 (by kernel_rfl) rfl (by kernel_rfl) rfl rfl rfl rfl rfl rfl rfl h2 trivial ?_
              refine WH.one 15 rfl (by kernel_rfl) ?_
              refine WL.store rfl rfl rfl rfl rfl rfl (hp7.obj 0 rfl) (by rw [Nat.zero_add]; simp [rvs_len]; omega) (fun w8 hw8 => WL.nil ⟨trivial, ?_⟩)
              rw [Nat.zero_add, cells_set] at hw8
              have hp8 := hp7.set 0 rfl rfl hw8
              refine WH.done (by kernel_rfl) ?_
              exact ⟨(), ⟨rfl, rfl, rfl, rfl, rfl, rfl, rfl, rfl, rfl⟩, done _ hp8⟩
            · refine WL.load rfl rfl rfl rfl rfl (Sl.cell kh6.rows (rvs_at _ hdi hdi)) (WL.nil ⟨trivial, ?_⟩)
              refine WH.one 7 rfl (by kernel_rfl) ?_
              refine WL.load rfl rfl rfl rfl rfl (Sl.cell kh6.rows (rvs_at _ h2 h2)) (WL.nil ⟨trivial, ?_⟩)
              refine WH.ix1 12 (by kernel_rfl) rfl (by kernel_rfl) rfl rfl rfl rfl rfl rfl rfl hdi trivial ?_
              refine WH.one 13 rfl (by kernel_rfl) ?_
              refine WL.store rfl rfl rfl rfl rfl rfl (Hp.obj kh6 0 rfl) (by rw [Nat.zero_add]; simp [rvs_len]; omega) (fun w7 hw7 => WL.nil ⟨trivial, ?_⟩)
              rw [Nat.zero_add, cells_set] at hw7
              have hp7 := Hp.set kh6 0 rfl rfl hw7
              refine WH.ix1 14 (by kernel_rfl) rfl (by kernel_rfl) rfl rfl rfl rfl rfl rfl rfl h2 trivial ?_
              refine WH.one 15 rfl (by kernel_rfl) ?_
              refine WL.store rfl rfl rfl rfl rfl rfl (hp7.obj 0 rfl) (by rw [Nat.zero_add]; simp [rvs_len]; omega) (fun w8 hw8 => WL.nil ⟨trivial, ?_⟩)
              rw [Nat.zero_add, cells_set] at hw8
              have hp8 := hp7.set 0 rfl rfl hw8
              refine WH.done (by kernel_rfl) ?_
              exact ⟨(), ⟨rfl, rfl, rfl, rfl, rfl, rfl, rfl, rfl, rfl⟩, done _ hp8⟩
          rintro ⟨⟩ e6 w6 hsub kh6
          refine WC.sub hsub ?_
          clear hsub
          have hM2 : ∀ i j, swapM M d k i j < p := by
            intro i j
            unfold swapM
            split
            · exact hM _ _
            · split <;> exact hM _ _
          have hpiv : swapM M d k d c = M k c := by simp [swapM]
          generalize swapI id d k = id2 at *
          generalize hMs : swapM M d k = M2 at *
          have hin := inverse_any p (M2 d c) hpp (by omega) (hM2 d c) (by omega)
          have hlead : iv p (M2 d c) < p := iv_lt hp0 _
          have hEl : elimM p i d c M2 = elimP p d c (iv p (M2 d c)) i M2 := rfl
          rw [hEl] at hE
          generalize iv p (M2 d c) = lead at *
          repeat (first | refine WC.seq ?_ | refine WC.reg ?_ | refine WL.pure rfl rfl rfl ?_ | refine WL.nil ?_ | refine WC.skip ?_ | refine WC.block ?_ | refine WC.condT rfl ?_ | refine WC.condF rfl ?_ | refine WL.off rfl rfl rfl ?_ | refine WL.off0 rfl rfl ?_ | refine WC.exit ?_ | refine blk_hit ?_ | refine blk_miss rfl ?_ | refine WC.ret ?_)
          refine WL.ixload rfl (fun _ => rfl) rfl rfl rfl rfl rfl rfl rfl hdi rfl rfl kh6.rows (rvs_at _ hdi hdi) ?_
          intro pa
          repeat (first | refine WC.seq ?_ | refine WC.reg ?_ | refine WL.pure rfl rfl rfl ?_ | refine WL.nil ?_ | refine WC.skip ?_ | refine WC.block ?_ | refine WC.condT rfl ?_ | refine WC.condF rfl ?_ | refine WL.off rfl rfl rfl ?_ | refine WL.off0 rfl rfl ?_ | refine WC.exit ?_ | refine blk_hit ?_ | refine blk_miss rfl ?_ | refine WC.ret ?_)
          refine WL.ixload rfl (fun _ => rfl) rfl rfl rfl rfl rfl rfl rfl (show c < 2 * i by omega) rfl rfl (kh6.row hdi) (ints_fl_at _ (show c < 2 * i by omega)) ?_
          intro pb
          refine WL.callP rfl rfl rfl rfl rfl ent55 (hin _) ?_
          repeat (first | refine WC.seq ?_ | refine WC.reg ?_ | refine WL.pure rfl rfl rfl ?_ | refine WL.nil ?_ | refine WC.skip ?_ | refine WC.block ?_ | refine WC.condT rfl ?_ | refine WC.condF rfl ?_ | refine WL.off rfl rfl rfl ?_ | refine WL.off0 rfl rfl ?_ | refine WC.exit ?_ | refine blk_hit ?_ | refine blk_miss rfl ?_ | refine WC.ret ?_)
          refine WC.loop Nat (fun q => [(0, .int .i64 (p : Nat)), (5, .int .i64 (i : Nat)), (8, .slice (some ⟨bR, 0, none⟩) i i), (11, .int .i64 (d : Nat)), (91, .int .i64 (i : Nat)), (92, .int .i64 (c : Nat)), (12, .int .i64 (c : Nat)), (14, .int .i64 (lead : Nat)), (15, .int .i64 (q : Nat))])
            (fun q w' => d + 1 ≤ q ∧ q ≤ i ∧ KH w2 bR id2 (elimP p d c lead q M2) i w') (fun q => i - q) (d + 1) ⟨rfl, rfl, rfl, rfl, rfl, rfl, rfl, rfl, congrArg (fun z => some (Value.int .i64 z)) stepd, rfl⟩
            ⟨Nat.le_refl _, hdi, kh6.congr fun a b _ _ => by unfold elimP; rw [if_neg (by omega)]⟩ ?_
          rintro q w7 ⟨hq1, hq2, kh7⟩
          repeat (first | refine WC.seq ?_ | refine WC.reg ?_ | refine WL.pure rfl rfl rfl ?_ | refine WL.nil ?_ | refine WC.skip ?_ | refine WC.block ?_ | refine WC.condT rfl ?_ | refine WC.condF rfl ?_ | refine WL.off rfl rfl rfl ?_ | refine WL.off0 rfl rfl ?_ | refine WC.exit ?_ | refine blk_hit ?_ | refine blk_miss rfl ?_ | refine WC.ret ?_)
          refine WC.cond rfl (fun h3 => ?_) (fun h3 => ?_)
          · have hq : q < i := by have := of_decide_eq_true h3; omega
            have stepq : IntKind.i64.wrap ((q : Int) + 1) = ((q + 1 : Nat) : Int) := by rw [wrap_i64_in (by omega) (by omega)]; omega
            have hv : elimP p d c lead q M2 q c = M2 q c := by unfold elimP; rw [if_neg (by omega)]
            have et := mul_val hp0 hp (hM2 q c) hlead
            have htl := Nat.mod_lt (M2 q c * lead) hp0
            repeat (first | refine WC.seq ?_ | refine WC.reg ?_ | refine WL.pure rfl rfl rfl ?_ | refine WL.nil ?_ | refine WC.skip ?_ | refine WC.block ?_ | refine WC.condT rfl ?_ | refine WC.condF rfl ?_ | refine WL.off rfl rfl rfl ?_ | refine WL.off0 rfl rfl ?_ | refine WC.exit ?_ | refine blk_hit ?_ | refine blk_miss rfl ?_ | refine WC.ret ?_)
            refine WL.ixload rfl (fun _ => rfl) rfl rfl rfl rfl rfl rfl rfl hq rfl rfl kh7.rows (rvs_at _ hq hq) ?_
            intro pc
            repeat (first | refine WC.seq ?_ | refine WC.reg ?_ | refine WL.pure rfl rfl rfl ?_ | refine WL.nil ?_ | refine WC.skip ?_ | refine WC.block ?_ | refine WC.condT rfl ?_ | refine WC.condF rfl ?_ | refine WL.off rfl rfl rfl ?_ | refine WL.off0 rfl rfl ?_ | refine WC.exit ?_ | refine blk_hit ?_ | refine blk_miss rfl ?_ | refine WC.ret ?_)
            refine WL.ixload rfl (fun _ => rfl) rfl rfl rfl rfl rfl rfl rfl (show c < 2 * i by omega) rfl rfl (kh7.row hq) (by have h9 := ints_fl_at (elimP p d c lead q M2 q) (show c < 2 * i by omega); rw [hv] at h9; exact h9) ?_
            intro pd
            repeat (first | refine WC.seq ?_ | refine WC.reg ?_ | refine WL.pure rfl rfl rfl ?_ | refine WL.nil ?_ | refine WC.skip ?_ | refine WC.block ?_ | refine WC.condT rfl ?_ | refine WC.condF rfl ?_ | refine WL.off rfl rfl rfl ?_ | refine WL.off0 rfl rfl ?_ | refine WC.exit ?_ | refine blk_hit ?_ | refine blk_miss rfl ?_ | refine WC.ret ?_)
            refine WL.rem rfl rfl rfl rfl (by omega) ?_
            refine WL.known (d := 154) (congrArg (fun z => some (Value.int .i64 z)) et) ?_
            repeat (first | refine WC.seq ?_ | refine WC.reg ?_ | refine WL.pure rfl rfl rfl ?_ | refine WL.nil ?_ | refine WC.skip ?_ | refine WC.block ?_ | refine WC.condT rfl ?_ | refine WC.condF rfl ?_ | refine WL.off rfl rfl rfl ?_ | refine WL.off0 rfl rfl ?_ | refine WC.exit ?_ | refine blk_hit ?_ | refine blk_miss rfl ?_ | refine WC.ret ?_)
            refine WL.ixload rfl (fun _ => rfl) rfl rfl rfl rfl rfl rfl rfl hq rfl rfl kh7.rows (rvs_at _ hq hq) ?_
            intro pe
            have hfin : ∀ a b, rowP p d (M2 q c * lead % p) q (2 * i) (elimP p d c lead q M2) M2 a b = elimP p d c lead (q + 1) M2 a b ∨ 2 * i ≤ b := by
              intro a b
              by_cases hb : b < 2 * i
              · left
                unfold rowP
                by_cases ha : a = q
                · subst ha
                  rw [if_pos rfl]
                  simp only [if_pos hb]
                  unfold elimP
                  rw [if_pos (by omega)]
                · rw [if_neg ha]
                  unfold elimP
                  by_cases h5 : d < a ∧ a < q
                  · rw [if_pos h5, if_pos (by omega)]
                  · rw [if_neg h5, if_neg (by omega)]
              · right; omega
            have hin0 : ∀ a b, a < i → b < 2 * i → elimP p d c lead q M2 a b = rowP p d (M2 q c * lead % p) q 0 (elimP p d c lead q M2) M2 a b := by
              intro a b _ _
              unfold rowP
              by_cases ha : a = q
              · subst ha
                rw [if_pos rfl]
                simp only [if_neg (Nat.not_lt_zero _)]
                unfold elimP
                rw [if_neg (by omega)]
              · rw [if_neg ha]
            have hd0 : ∀ j0 b, rowP p d (M2 q c * lead % p) q j0 (elimP p d c lead q M2) M2 d b = M2 d b := by
              intro j0 b
              unfold rowP
              rw [if_neg (by omega)]
              unfold elimP
              rw [if_neg (by omega)]
            have hq0 : ∀ j0 b, rowP p d (M2 q c * lead % p) q j0 (elimP p d c lead q M2) M2 q b = if b < j0 then (M2 q b + (p - M2 q c * lead % p) * M2 d b) % p else M2 q b := by
              intro j0 b
              unfold rowP
              rw [if_pos rfl]
            have hnx : ∀ j0, (fun k => if k = q then (fun b => if b = j0 then (M2 q b + (p - M2 q c * lead % p) * M2 d b) % p else rowP p d (M2 q c * lead % p) q j0 (elimP p d c lead q M2) M2 q b) else rowP p d (M2 q c * lead % p) q j0 (elimP p d c lead q M2) M2 k) = rowP p d (M2 q c * lead % p) q (j0 + 1) (elimP p d c lead q M2) M2 := by
              intro j0
              funext k b
              by_cases hk : k = q
              · subst hk
                rw [if_pos rfl, hq0]
                simp only [hq0]
                by_cases h5 : b = j0
                · rw [if_pos h5, if_pos (by omega)]
                · rw [if_neg h5]
                  by_cases h6 : b < j0
                  · rw [if_pos h6, if_pos (by omega)]
                  · rw [if_neg h6, if_neg (by omega)]
              · rw [if_neg hk]
                unfold rowP
                rw [if_neg hk, if_neg hk]
            generalize hT : M2 q c * lead % p = times at *
            have kh7 := kh7.congr hin0
            repeat (first | refine WC.seq ?_ | refine WC.reg ?_ | refine WL.pure rfl rfl rfl ?_ | refine WL.nil ?_ | refine WC.skip ?_ | refine WC.block ?_ | refine WC.condT rfl ?_ | refine WC.condF rfl ?_ | refine WL.off rfl rfl rfl ?_ | refine WL.off0 rfl rfl ?_ | refine WC.exit ?_ | refine blk_hit ?_ | refine blk_miss rfl ?_ | refine WC.ret ?_)
            refine WC.loop Nat (fun j => [(0, .int .i64 (p : Nat)), (5, .int .i64 (i : Nat)), (8, .slice (some ⟨bR, 0, none⟩) i i), (11, .int .i64 (d : Nat)), (91, .int .i64 (i : Nat)), (92, .int .i64 (c : Nat)), (12, .int .i64 (c : Nat)), (14, .int .i64 (lead : Nat)), (15, .int .i64 (q : Nat)), (16, .int .i64 (times : Nat)), (159, .int .i64 (2 * i : Nat)), (160, .int .i64 (j : Nat))])
              (fun j w' => j ≤ 2 * i ∧ KH w2 bR id2 (rowP p d times q j (elimP p d c lead q M2) M2) i w') (fun j => 2 * i - j) 0 ⟨rfl, rfl, rfl, rfl, rfl, rfl, rfl, rfl, rfl, rfl, rfl, rfl, rfl⟩ ⟨Nat.zero_le _, kh7⟩ ?_
            rintro j w8 ⟨hj, kh8⟩
            repeat (first | refine WC.seq ?_ | refine WC.reg ?_ | refine WL.pure rfl rfl rfl ?_ | refine WL.nil ?_ | refine WC.skip ?_ | refine WC.block ?_ | refine WC.condT rfl ?_ | refine WC.condF rfl ?_ | refine WL.off rfl rfl rfl ?_ | refine WL.off0 rfl rfl ?_ | refine WC.exit ?_ | refine blk_hit ?_ | refine blk_miss rfl ?_ | refine WC.ret ?_)
            refine WC.cond rfl (fun h4 => ?_) (fun h4 => ?_)
            · have hj : j < 2 * i := by have := of_decide_eq_true h4; omega
              have stepj : IntKind.i64.wrap ((j : Int) + 1) = ((j + 1 : Nat) : Int) := by rw [wrap_i64_in (by omega) (by omega)]; omega
              have v1 : (ints (fl (2 * i) (rowP p d times q j (elimP p d c lead q M2) M2 q)))[j]? = some (.int .i64 (M2 q j : Nat)) := by
                rw [ints_fl_at _ hj, hq0, if_neg (by omega)]
              have v2 : (ints (fl (2 * i) (rowP p d times q j (elimP p d c lead q M2) M2 d)))[j]? = some (.int .i64 (M2 d j : Nat)) := by
                rw [ints_fl_at _ hj, hd0]
              have es := sub_val hp0 hp (hM2 q j) htl (hM2 d j)
              repeat (first | refine WC.seq ?_ | refine WC.reg ?_ | refine WL.pure rfl rfl rfl ?_ | refine WL.nil ?_ | refine WC.skip ?_ | refine WC.block ?_ | refine WC.condT rfl ?_ | refine WC.condF rfl ?_ | refine WL.off rfl rfl rfl ?_ | refine WL.off0 rfl rfl ?_ | refine WC.exit ?_ | refine blk_hit ?_ | refine blk_miss rfl ?_ | refine WC.ret ?_)
              refine WC.regS 25 mixed (by kernel_rfl) rfl rfl (fun w9 hw9 hh9 => ?_)
              have kh9 := kh8.keep hw9
              repeat (first | refine WS.pure rfl rfl rfl ?_ | refine WS.off rfl rfl rfl ?_ | refine WS.nil ?_)
              refine WS.ix1 rfl rfl rfl rfl rfl rfl rfl hq ?_
              refine WS.load rfl rfl rfl rfl rfl (Sl.cell kh9.rows (rvs_at _ hq hq)) ?_
              repeat (first | refine WS.pure rfl rfl rfl ?_ | refine WS.off rfl rfl rfl ?_ | refine WS.nil ?_)
              refine WS.ix1 rfl rfl rfl rfl rfl rfl rfl hq ?_
              refine WS.load rfl rfl rfl rfl rfl (Sl.cell kh9.rows (rvs_at _ hq hq)) ?_
              repeat (first | refine WS.pure rfl rfl rfl ?_ | refine WS.off rfl rfl rfl ?_ | refine WS.nil ?_)
              refine WS.ix1 rfl rfl rfl rfl rfl rfl rfl hj ?_
              refine WS.load rfl rfl rfl rfl rfl (Sl.cell (kh9.row hq) v1) ?_
              repeat (first | refine WS.pure rfl rfl rfl ?_ | refine WS.off rfl rfl rfl ?_ | refine WS.nil ?_)
              refine WS.ix1 rfl rfl rfl rfl rfl rfl rfl hdi ?_
              refine WS.load rfl rfl rfl rfl rfl (Sl.cell kh9.rows (rvs_at _ hdi hdi)) ?_
              repeat (first | refine WS.pure rfl rfl rfl ?_ | refine WS.off rfl rfl rfl ?_ | refine WS.nil ?_)
              refine WS.ix1 rfl rfl rfl rfl rfl rfl rfl hj ?_
              refine WS.load rfl rfl rfl rfl rfl (Sl.cell (kh9.row hdi) v2) ?_
              repeat (first | refine WS.pure rfl rfl rfl ?_ | refine WS.off rfl rfl rfl ?_ | refine WS.nil ?_)
              refine WS.call rfl rfl rfl rfl rfl ent54 (mod_any p _ hp0 (by omega) w9) ?_
              refine WS.known (d := 186) (congrArg (fun z => some (Value.int .i64 z)) es) ?_
              refine WS.ix1 rfl rfl rfl rfl rfl rfl rfl hj ?_
              repeat (first | refine WS.pure rfl rfl rfl ?_ | refine WS.off rfl rfl rfl ?_ | refine WS.nil ?_)
              refine WL.store rfl rfl rfl rfl rfl rfl (Hp.obj kh9 (q + 1) (nth_Ro hq)) (by simp [ints, fl]; omega) (fun wa hwa => ?_)
              rw [Nat.zero_add, ints_set, fl_set] at hwa
              have hfe : (fl (2 * i) fun b => if b = j then (M2 q j + (p - times) * M2 d j) % p else rowP p d times q j (elimP p d c lead q M2) M2 q b) = fl (2 * i) fun b => if b = j then (M2 q b + (p - times) * M2 d b) % p else rowP p d times q j (elimP p d c lead q M2) M2 q b :=
                fl_congr fun b _ => by
                  by_cases h5 : b = j
                  · rw [if_pos h5, if_pos h5, h5]
                  · rw [if_neg h5, if_neg h5]
              rw [hfe] at hwa
              have kha := kh9.set hq hwa
              rw [hnx] at kha
              repeat (first | refine WC.seq ?_ | refine WC.reg ?_ | refine WL.pure rfl rfl rfl ?_ | refine WL.nil ?_ | refine WC.skip ?_ | refine WC.block ?_ | refine WC.condT rfl ?_ | refine WC.condF rfl ?_ | refine WL.off rfl rfl rfl ?_ | refine WL.off0 rfl rfl ?_ | refine WC.exit ?_ | refine blk_hit ?_ | refine blk_miss rfl ?_ | refine WC.ret ?_)
              exact ⟨j + 1, by show 2 * i - (j + 1) < 2 * i - j; omega, ⟨rfl, rfl, rfl, rfl, rfl, rfl, rfl, rfl, rfl, rfl, rfl, congrArg (fun z => some (Value.int .i64 z)) stepj, rfl⟩, hj, kha⟩
            · have hj : j = 2 * i := by have := of_decide_eq_false h4; omega
              subst hj
              repeat (first | refine WC.seq ?_ | refine WC.reg ?_ | refine WL.pure rfl rfl rfl ?_ | refine WL.nil ?_ | refine WC.skip ?_ | refine WC.block ?_ | refine WC.condT rfl ?_ | refine WC.condF rfl ?_ | refine WL.off rfl rfl rfl ?_ | refine WL.off0 rfl rfl ?_ | refine WC.exit ?_ | refine blk_hit ?_ | refine blk_miss rfl ?_ | refine WC.ret ?_)
              exact ⟨q + 1, by show i - (q + 1) < i - q; omega, ⟨rfl, rfl, rfl, rfl, rfl, rfl, rfl, rfl, congrArg (fun z => some (Value.int .i64 z)) stepq, rfl⟩, by omega, hq, kh8.congr fun a b _ hb => (hfin a b).resolve_right (by omega)⟩
          · have hq : q = i := by have := of_decide_eq_false h3; omega
            subst hq
            repeat (first | refine WC.seq ?_ | refine WC.reg ?_ | refine WL.pure rfl rfl rfl ?_ | refine WL.nil ?_ | refine WC.skip ?_ | refine WC.block ?_ | refine WC.condT rfl ?_ | refine WC.condF rfl ?_ | refine WL.off rfl rfl rfl ?_ | refine WL.off0 rfl rfl ?_ | refine WC.exit ?_ | refine blk_hit ?_ | refine blk_miss rfl ?_ | refine WC.ret ?_)
            refine ⟨(c + 1, d + 1, id2, elimP p d c lead q M2), by show q - (c + 1) < q - c; omega, ⟨rfl, rfl, rfl, congrArg (fun z => some (Value.int .i64 z)) stepd, rfl, congrArg (fun z => some (Value.int .i64 z)) stepc, rfl⟩, hc, by omega, fun a b => ?_, hE, kh7⟩
            unfold elimP
            split
            · exact Nat.mod_lt _ hp0
            · exact hM2 _ _
    · have hc : c = i := by have := of_decide_eq_false hc; omega
      subst hc
      have hkm : kernM p c M0 = (List.range (c - d)).map fun m => trimL (fl c fun j => M (d + m) (c + j)) := by
        unfold kernM
        rw [hG]
      rw [hkm]
      repeat (first | refine WC.seq ?_ | refine WC.reg ?_ | refine WL.pure rfl rfl rfl ?_ | refine WL.nil ?_ | refine WC.skip ?_ | refine WC.block ?_ | refine WC.condT rfl ?_ | refine WC.condF rfl ?_ | refine WL.off rfl rfl rfl ?_ | refine WL.off0 rfl rfl ?_ | refine WC.exit ?_ | refine blk_hit ?_ | refine blk_miss rfl ?_ | refine WC.ret ?_)
      refine WL.sliceLo rfl rfl rfl rfl rfl rfl hdc (Nat.le_refl _) ?_
      intro ar har
      repeat (first | refine WC.seq ?_ | refine WC.reg ?_ | refine WL.pure rfl rfl rfl ?_ | refine WL.nil ?_ | refine WC.skip ?_ | refine WC.block ?_ | refine WC.condT rfl ?_ | refine WC.condF rfl ?_ | refine WL.off rfl rfl rfl ?_ | refine WL.off0 rfl rfl ?_ | refine WC.exit ?_ | refine blk_hit ?_ | refine blk_miss rfl ?_ | refine WC.ret ?_)
      refine WC.loop (Nat × Value × List (Value × List Nat)) (fun (m, vo, pool) => [(5, .int .i64 (c : Nat)), (18, vo), (194, .slice ar (c - d) (c - d)), (195, .int .i64 (c - d : Nat)), (196, .int .i64 (m : Nat))])
        (fun (m, vo, pool) w' => m ≤ c - d ∧ pool.length = m ∧ pool.map (·.2) = ((List.range m).map fun m => trimL (fl c fun j => M (d + m) (c + j))) ∧ Hp w2 w' (.blk bR (.cells (rvs id c c).toArray 22 (0, 0)) :: .row 22 1 vo pool.length (pool.map (·.1)) :: (Ro id M c c ++ pool.map fun e => Rw e.1 e.2))) (fun (m, _) => c - d - m) (0, .slice none 0 0, []) ⟨rfl, rfl, rfl, rfl, rfl, rfl⟩
        ⟨Nat.zero_le _, rfl, rfl, by
          have h9 := (Hp.nilrow kh 22 1).swap
          simp only [List.map_nil, List.append_nil, List.length_nil]
          exact h9⟩ ?_
      rintro ⟨m, vo, pool⟩ w4 ⟨hm, hpl, hps, hp4⟩
      repeat (first | refine WC.seq ?_ | refine WC.reg ?_ | refine WL.pure rfl rfl rfl ?_ | refine WL.nil ?_ | refine WC.skip ?_ | refine WC.block ?_ | refine WC.condT rfl ?_ | refine WC.condF rfl ?_ | refine WL.off rfl rfl rfl ?_ | refine WL.off0 rfl rfl ?_ | refine WC.exit ?_ | refine blk_hit ?_ | refine blk_miss rfl ?_ | refine WC.ret ?_)
      refine WC.cond rfl (fun h1 => ?_) (fun h1 => ?_)
      · have hm : m < c - d := by have := of_decide_eq_true h1; omega
        have stepm : IntKind.i64.wrap ((m : Int) + 1) = ((m + 1 : Nat) : Int) := by rw [wrap_i64_in (by omega) (by omega)]; omega
        have hdm : d + m < c := by omega
        have hsr : Sl w4 ar ((rvs id c c).drop (d * 1)) := har w4 (rvs id c c) (Sl.of_obj (hp4.obj 0 rfl) (fun q u hq => by simpa using hq)) (by rw [rvs_len]; exact Nat.le_of_eq (Nat.mul_one _).symm)
        have hv1 : ((rvs id c c).drop (d * 1))[m]? = some (rv id c (d + m)) := by rw [List.getElem?_drop, Nat.mul_one, rvs_at _ hdm hdm]
        repeat (first | refine WC.seq ?_ | refine WC.reg ?_ | refine WL.pure rfl rfl rfl ?_ | refine WL.nil ?_ | refine WC.skip ?_ | refine WC.block ?_ | refine WC.condT rfl ?_ | refine WC.condF rfl ?_ | refine WL.off rfl rfl rfl ?_ | refine WL.off0 rfl rfl ?_ | refine WC.exit ?_ | refine blk_hit ?_ | refine blk_miss rfl ?_ | refine WC.ret ?_)
        refine WL.ixload rfl (fun _ => rfl) rfl rfl rfl rfl rfl rfl rfl hm rfl rfl hsr hv1 ?_
        intro pa
        repeat (first | refine WC.seq ?_ | refine WC.reg ?_ | refine WL.pure rfl rfl rfl ?_ | refine WL.nil ?_ | refine WC.skip ?_ | refine WC.block ?_ | refine WC.condT rfl ?_ | refine WC.condF rfl ?_ | refine WL.off rfl rfl rfl ?_ | refine WL.off0 rfl rfl ?_ | refine WC.exit ?_ | refine blk_hit ?_ | refine blk_miss rfl ?_ | refine WC.ret ?_)
        refine WL.sliceLo rfl rfl rfl rfl rfl rfl (show c ≤ 2 * c by omega) (Nat.le_refl _) ?_
        intro a2 ha2
        have hblk := hp4.sat (.blk (id (d + m)) (.cells (ints (fl (2 * c) (M (d + m)))).toArray 3 (0, 0))) (by
          refine List.mem_cons_of_mem _ (List.mem_cons_of_mem _ (List.mem_append_left _ ?_))
          exact List.mem_of_getElem? (Ro_at id M c hdm))
        have hs2 : Sl w4 a2 ((ints (fl (2 * c) (M (d + m)))).drop (c * 1)) := ha2 w4 (ints (fl (2 * c) (M (d + m)))) (Sl.of_obj hblk.2 (fun q u hq => by simpa using hq)) (by rw [ints_len, fl_len]; exact Nat.le_of_eq (Nat.mul_one _).symm)
        have hdr : (ints (fl (2 * c) (M (d + m)))).drop (c * 1) = ints (fl c fun j => M (d + m) (c + j)) := by
          rw [Nat.mul_one]
          apply List.ext_getElem?
          intro j
          rw [List.getElem?_drop]
          by_cases h : j < c
          · rw [ints_fl_at _ (by omega), ints_fl_at _ h]
          · rw [List.getElem?_eq_none (by rw [ints_len, fl_len]; omega), List.getElem?_eq_none (by rw [ints_len, fl_len]; omega)]
        rw [hdr] at hs2
        have e2c : 2 * c - c = c := by omega
        have hfl : (fl c fun j => M (d + m) (c + j)).length = c := fl_len _ _
        have hcl := clone_any a2 c (fl c fun j => M (d + m) (c + j)) (by omega) (fun h => by
          obtain ⟨b, o, h2⟩ := Sl.some hs2 (ints_fl_at _ hn1)
          rw [h] at h2; cases h2) w4 hs2
        rw [hfl] at hcl
        rw [e2c]
        refine WL.call rfl rfl rfl rfl rfl ent107 hcl ?_
        rintro v3 w5 hp5
        have hp5 := hp4.comb hp5
        refine WL.call rfl rfl rfl rfl rfl ent70 (trim_row _ (by omega) hp5) ?_
        rintro v4 w6 ⟨rfl, hp6⟩
        obtain ⟨v4a, v4n, v4c, rfl⟩ : ∃ a n c, v4 = .slice a n c := by obtain ⟨a, c, rfl, _⟩ := Pd.row hp6 0 rfl; exact ⟨_, _, _, rfl⟩
        refine WL.buildS (cs := [.slice v4a v4n v4c]) rfl rfl rfl rfl rfl rfl rfl rfl rfl ?_
        intro bs w7 hbs
        have hp7 := hp6.new hbs
        obtain ⟨voa, voc, rfl⟩ : ∃ a c, vo = .slice a pool.length c := owns_shape (hp7.at 3 rfl)
        refine WL.append 3 hp7 rfl rfl rfl rfl rfl (by decide) rfl rfl rfl (news := [.slice v4a v4n v4c]) (Sl.of_obj (hp7.obj 0 rfl) (fun q u hq => by simpa using hq)) rfl (Cells.cons rfl Cells.nil) (by unfold maxLen; omega) (by show (pool.length + 1) * 24 ≤ _; omega) ?_
        intro a' c' w8 hp8 hg8
        repeat (first | refine WC.seq ?_ | refine WC.reg ?_ | refine WL.pure rfl rfl rfl ?_ | refine WL.nil ?_ | refine WC.skip ?_ | refine WC.block ?_ | refine WC.condT rfl ?_ | refine WC.condF rfl ?_ | refine WL.off rfl rfl rfl ?_ | refine WL.off0 rfl rfl ?_ | refine WC.exit ?_ | refine blk_hit ?_ | refine blk_miss rfl ?_ | refine WC.ret ?_)
        refine ⟨(m + 1, .slice a' (pool.length + 1) c', pool ++ [(.slice v4a v4n v4c, trimL (fl c fun j => M (d + m) (c + j)))]), by show c - d - (m + 1) < c - d - m; omega, ⟨rfl, rfl, rfl, rfl, congrArg (fun z => some (Value.int .i64 z)) stepm, rfl⟩, hm, by simp [hpl], by rw [List.map_append, hps, List.range_succ, List.map_append]; rfl, ?_⟩
        simp only [List.map_append, List.map_cons, List.map_nil, List.length_append, List.length_cons, List.length_nil]
        have hp9 := hp8.tail
        refine Hp.permP hp9 ?_
        refine (List.Perm.swap _ _ _).trans (List.Perm.cons _ ?_)
        refine (List.Perm.swap _ _ _).trans (List.Perm.cons _ ?_)
        rw [← List.append_assoc]
        exact List.perm_append_comm (l₁ := [_])
      · have hm : m = c - d := by have := of_decide_eq_false h1; omega
        subst hm
        repeat (first | refine WC.seq ?_ | refine WC.reg ?_ | refine WL.pure rfl rfl rfl ?_ | refine WL.nil ?_ | refine WC.skip ?_ | refine WC.block ?_ | refine WC.condT rfl ?_ | refine WC.condF rfl ?_ | refine WL.off rfl rfl rfl ?_ | refine WL.off0 rfl rfl ?_ | refine WC.exit ?_ | refine blk_hit ?_ | refine blk_miss rfl ?_ | refine WC.ret ?_)
        exact Res.one rfl rfl rfl ⟨pool, hps, hp2.over (hp4.tail.subl (.cons_cons _ (List.sublist_append_right _ _)))⟩
end Go.Proofs.Ytagfpnnplgkkoaa
