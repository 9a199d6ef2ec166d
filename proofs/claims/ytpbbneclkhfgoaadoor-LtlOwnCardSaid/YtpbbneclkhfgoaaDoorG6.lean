/- Texts on the way to LtlOwn, one behind the other: U23 U24 U25 U26. -/
import Derived.Test.YtpbbneclkhfgoaaDoorG5
section
/- ltl, twenty-third: components (printed by genu23.py). -/
namespace Go.W
open Go.RowKit
theorem Hp.rowCut {w0 w : World} {L L' : List Ent} {E s n m c : Nat} {a : Option Addr} {xs : List Value} (h : Hp w0 w L) (i : Nat) (hi : nth L i = some (.row E s (.slice a n c) n xs)) (hm : m ≤ n) (hL : L.set i (.row E s (.slice a m c) m (xs.take (m * s))) = L') : Hp w0 w L' := by
  have hs := h.at i hi
  refine h.repl (row := none) i hi hL (World.grownBy.refl w _) (fun k hk => by cases hk) ?_ (fun k hk => .inl ?_)
  · obtain ⟨hl, ⟨hv, hn⟩ | ⟨b, cap, cur, hv, hb, hg, hnc, hcm, hcs, ht⟩⟩ := hs
    · subst hn
      have : m = 0 := by omega
      subst this
      exact ⟨by simp, .inl ⟨hv, rfl⟩⟩
    · simp only [Value.slice.injEq] at hv
      obtain ⟨rfl, _, rfl⟩ := hv
      refine ⟨?_, .inr ⟨b, c, cur, rfl, hb, hg, Nat.le_trans hm hnc, hcm, hcs, ?_⟩⟩
      · rw [List.length_take, hl]
        exact Nat.min_eq_left (Nat.mul_le_mul_right _ hm)
      · rw [← ht, List.take_take, Nat.min_eq_left (Nat.mul_le_mul_right _ hm)]
  · cases a with
    | none => cases hk
    | some a => exact hk
theorem Sl.cell {w : World} {b o i : Nat} {cs : List Value} {u : Value} (h : Sl w (Option.some ⟨b, o, none⟩) cs) (hi : cs[i]? = Option.some u) : w.cell? ⟨b, o + i, none⟩ = Option.some u := by
  obtain ⟨b', o', ha, hc⟩ := h i u hi
  simp only [Option.some.injEq, Addr.mk.injEq] at ha
  rw [ha.1, ha.2.1]; exact hc
theorem Hp.capR {w0 w : World} {L : List Ent} {E s n c : Nat} {a : Option Addr} {xs : List Value} (h : Hp w0 w L) (i : Nat) (hi : nth L i = some (.row E s (.slice a n c) n xs)) : n ≤ c := row_cap (h.at i hi)
end Go.W
namespace Go.Ltl
open Go.W
theorem cast_min (a b : Nat) : min (a : Int) (b : Int) = ((min a b : Nat) : Int) := by
  rcases Nat.le_total a b with h | h
  · rw [Nat.min_eq_left h, Int.min_eq_left (by omega)]
  · rw [Nat.min_eq_right h, Int.min_eq_right (by omega)]
theorem getD_some {l : List Nat} {j : Nat} (h : j < l.length) : l[j]? = some (l.getD j 0) := by simp [h]
theorem tjEnter_path (s : Tj) (v : Nat) : (tjEnter s v).path = s.path := by unfold tjEnter; split <;> rfl
theorem tjRun_nil {next : List (List Nat)} {f : Nat} {s : Tj} (h : s.path = []) : tjRun next f s = some (f, s) := by
  cases f <;> (unfold tjRun; rw [if_pos h])
theorem tjRun_step {next : List (List Nat)} {f : Nat} {s : Tj} {v : Nat} {rest : List Nat} {r : Nat × Tj} (h : tjRun next f s = some r) (hp : s.path = v :: rest) :
    ∃ f0 s', f = f0 + 1 ∧ tjTurn next (tjEnter s v) v rest = some s' ∧ tjRun next f0 s' = some r := by
  have hne : s.path ≠ [] := by rw [hp]; exact List.cons_ne_nil _ _
  cases f with
  | zero => unfold tjRun at h; rw [if_neg hne] at h; cases h
  | succ f =>
    unfold tjRun at h
    rw [if_neg hne] at h
    unfold tjStep at h
    rw [hp] at h
    simp only at h
    cases hq : tjTurn next (tjEnter s v) v rest with
    | none => rw [hq] at h; cases h
    | some s' => rw [hq] at h; exact ⟨f, s', rfl, rfl, h⟩
/-- Within bounds: B more than the fuel. -/
structure TjOk (n B : Nat) (s : Tj) (f : Nat) : Prop where
  i : s.index.length = n
  l : s.low.length = n
  o : s.of_.length = n
  a : s.at_.length = n
  p : ∀ x ∈ s.path, x < n
  k : ∀ x ∈ s.stk, x < n
  c : s.count + f ≤ B
  m : s.number + f ≤ B
  kl : s.stk.length + f ≤ B
  pl : s.path.length + f ≤ B + 1
end Go.Ltl
namespace Go.Proofs.YtpbbneclkhfgoaaDoor
open Go.W Go.Ltl Go.RowKit
set_option maxRecDepth 100000
attribute [local irreducible] WC WL WQ WS WH

/-- A list of numbers of one's own. -/
abbrev cE (b : Nat) (l : List Nat) : Ent := .blk b (.cells (natL l).toArray 3 (0, 0))
theorem cE_sl {w0 w : World} {L : List Ent} {b : Nat} {l : List Nat} (h : Hp w0 w L) (q : Nat) (hq : nth L q = some (cE b l)) : Sl w (some ⟨b, 0, none⟩) (natL l) := Sl.of_obj (h.obj q hq) (fun i u hu => by simpa using hu)
theorem cE_set {w0 w w' : World} {L L' : List Ent} {b j x : Nat} {l : List Nat} (h : Hp w0 w L) (q : Nat) (hq : nth L q = some (cE b l)) (hL : L.set q (cE b (l.set j x)) = L') (hs : SetB w b (.cells ((natL l).toArray.setIfInBounds j (.int .i64 (x : Nat))) 3 (0, 0)) w') : Hp w0 w' L' := by
  have e1 : (natL l).toArray.setIfInBounds j (.int .i64 (x : Nat)) = (natL (l.set j x)).toArray := by simp [natL, List.map_set]
  rw [e1] at hs
  exact h.set q hq hL hs
theorem cE_room {l : List Nat} {j n : Nat} (hl : l.length = n) (h : j < n) : j < (natL l).toArray.size := by simp [natL]; omega
theorem nd {l : List Nat} {i n : Nat} (hl : l.length = n) (h : i < n) : (natL l)[i]? = some (.int .i64 (l.getD i 0 : Nat)) := natL_get (by omega)
theorem natL_zero (n : Nat) : (List.replicate n (Value.int .i64 0)).toArray = (natL (List.replicate n 0)).toArray := by simp [natL]
/-- The top of a row. -/
theorem top_at (v : Nat) (rest : List Nat) : (natL (v :: rest).reverse)[rest.length]? = some (.int .i64 (v : Nat)) := by simp [natL]
theorem top_take (v : Nat) (rest : List Nat) : (natL (v :: rest).reverse).take (rest.length * 1) = natL rest.reverse := by
  simp only [natL, List.reverse_cons, List.map_append, Nat.mul_one]
  have : rest.length = (List.map (fun (n : Nat) => Value.int .i64 n) rest.reverse).length := by simp
  rw [this, List.take_left]
theorem top_push (v : Nat) (rest : List Nat) : natL (v :: rest).reverse = natL rest.reverse ++ [.int .i64 (v : Nat)] := by simp [natL]
/-- A row with its top first. -/
abbrev stE (a : Option Addr) (c : Nat) (l : List Nat) : Ent := Rna (.slice a l.length c) l.length l.reverse
theorem stE_push (a : Option Addr) (c v : Nat) (l : List Nat) : stE a c (v :: l) = .row 3 1 (.slice a (l.length + 1) c) (l.length + 1) (natL l.reverse ++ [.int .i64 (v : Nat)]) := by
  show Ent.row _ _ _ _ (natL (v :: l).reverse) = _
  rw [top_push]; rfl
theorem stE_sl {w0 w : World} {L : List Ent} {a : Option Addr} {c : Nat} {l : List Nat} (h : Hp w0 w L) (q : Nat) (hq : nth L q = some (stE a c l)) : Sl w a (natL l.reverse) := Sl.of_row (h.at q hq)
abbrev sN (b N : Nat) : Value := .slice (some ⟨b, 0, none⟩) N N
abbrev cpE (an : Option Addr) (cn N ib lb ob ab root : Nat) (s : Tj) (sa : Option Addr) (sc : Nat) (pa : Option Addr) (pc : Nat) : Env :=
  [(0, .slice an N cn), (3, .int .i64 (N : Nat)), (4, sN ib N), (5, sN lb N), (6, sN ob N), (7, sN ab N), (8, .slice sa s.stk.length sc), (9, .slice pa s.path.length pc), (10, .int .i64 (s.count : Nat)), (11, .int .i64 (s.number : Nat)), (26, .int .i64 (N : Nat)), (27, .int .i64 (root : Nat))]
abbrev cpL (ib lb ob ab : Nat) (s : Tj) (sa : Option Addr) (sc : Nat) (pa : Option Addr) (pc : Nat) : List Ent := [cE ib s.index, cE lb s.low, cE ob s.of_, cE ab s.at_, stE sa sc s.stk, stE pa pc s.path]
theorem mem_set {l : List Nat} {p : Nat → Prop} (h : ∀ x ∈ l, p x) {a : Nat} (ha : p a) : ∀ x ∈ a :: l, p x := fun x hx => by
  rcases List.mem_cons.1 hx with h1 | h1
  · rw [h1]; exact ha
  · exact h x h1

theorem components_any (an : Option Addr) (cn N : Nat) (rs : Nrs) (w : World) (hN : rs.length = N) (hT : Tbl w an rs) (hn : N ≤ 65536) (hrow : ∀ x ∈ rs, x.2.2.length ≤ 1048576) (hin : ∀ x ∈ rs, ∀ u ∈ x.2.2, u < N) (F : Nat) (hF : F ≤ 1099511627776) (of_ : List Nat)
    (hM : compM F (rsN rs) = some of_) : Ret Tryd.prog 88 [.slice an N cn] w fun u w' => ∃ ob, u = sN ob N ∧ of_.length = N ∧ Hp w w' [cE ob of_] := by
  refine enter Tryd.func88 rfl rfl ⟨rfl, rfl⟩ rfl ?_
  repeat (first | refine WC.seq ?_ | refine WC.reg ?_ | refine WL.pure rfl rfl rfl ?_ | refine WL.nil ?_ | refine WC.skip ?_ | refine WC.block ?_ | refine WC.condT rfl ?_ | refine WC.condF rfl ?_ | refine WL.off rfl rfl rfl ?_ | refine WL.off0 rfl rfl ?_ | refine WC.exit ?_ | refine blk_hit ?_ | refine blk_miss rfl ?_ | refine WC.ret ?_)
  refine WC.mid (Nat × Nat × Nat) (fun (ib, lb, ob) => [(0, .slice an N cn), (3, .int .i64 (N : Nat)), (4, sN ib N), (5, sN lb N), (6, sN ob N)]) (fun (ib, lb, ob) w' => Hp w w' [cE ib (List.replicate N 0), cE lb (List.replicate N 0), cE ob (List.replicate N 0)]) ?_ ?_
  · unfold cE
    simp only [← natL_zero]
    refine WC.regH (fun _ => True) mixed (by kernel_rfl) (fun wm0 hw hh => ?_)
    have hm0 := (Hp.start w).keep hw
    refine WH.pure 0 (by kernel_rfl) rfl (by kernel_rfl) rfl rfl rfl (trivial) ?_
    refine WH.pure 2 (by kernel_rfl) rfl (by kernel_rfl) rfl rfl rfl (trivial) ?_
    refine WH.pure 4 (by kernel_rfl) rfl (by kernel_rfl) rfl rfl rfl (trivial) ?_
    refine WH.many [1, 3, 5] (by kernel_rfl) (by decide) ?_
    intro i hi
    simp only [List.mem_cons, List.not_mem_nil, or_false] at hi
    rcases hi with rfl | rfl | rfl
    · refine ⟨_, rfl, ?_⟩
      refine WL.make (m := N) rfl rfl rfl rfl rfl rfl rfl rfl (by show 8 * N ≤ _; omega) (by unfold maxLen; omega) (fun ib wm1 hb0 => ?_)
      have hm1 := hm0.new hb0
      refine WL.nil ⟨trivial, ?_⟩
      refine WH.pure 6 (by kernel_rfl) rfl (by kernel_rfl) rfl rfl rfl trivial ?_
      refine WH.many [3, 5] (by kernel_rfl) (by decide) ?_
      intro i hi
      simp only [List.mem_cons, List.not_mem_nil, or_false] at hi
      rcases hi with rfl | rfl
      · refine ⟨_, rfl, ?_⟩
        refine WL.make (m := N) rfl rfl rfl rfl rfl rfl rfl rfl (by show 8 * N ≤ _; omega) (by unfold maxLen; omega) (fun lb wm2 hb1 => ?_)
        have hm2 := hm1.new hb1
        refine WL.nil ⟨trivial, ?_⟩
        refine WH.pure 7 (by kernel_rfl) rfl (by kernel_rfl) rfl rfl rfl trivial ?_
        refine WH.one 5 rfl (by kernel_rfl) ?_
        refine WL.make (m := N) rfl rfl rfl rfl rfl rfl rfl rfl (by show 8 * N ≤ _; omega) (by unfold maxLen; omega) (fun ob wm3 hb2 => ?_)
        have hm3 := hm2.new hb2
        refine WL.nil ⟨trivial, ?_⟩
        refine WH.pure 8 (by kernel_rfl) rfl (by kernel_rfl) rfl rfl rfl trivial ?_
        refine WH.done (by kernel_rfl) ?_
        exact ⟨(ib, lb, ob), ⟨rfl, rfl, rfl, rfl, rfl, rfl⟩, hm3.pick [2, 1, 0] (by decide)⟩
      · refine ⟨_, rfl, ?_⟩
        refine WL.make (m := N) rfl rfl rfl rfl rfl rfl rfl rfl (by show 8 * N ≤ _; omega) (by unfold maxLen; omega) (fun ob wm2 hb1 => ?_)
        have hm2 := hm1.new hb1
        refine WL.nil ⟨trivial, ?_⟩
        refine WH.one 3 rfl (by kernel_rfl) ?_
        refine WL.make (m := N) rfl rfl rfl rfl rfl rfl rfl rfl (by show 8 * N ≤ _; omega) (by unfold maxLen; omega) (fun lb wm3 hb2 => ?_)
        have hm3 := hm2.new hb2
        refine WL.nil ⟨trivial, ?_⟩
        refine WH.pure 7 (by kernel_rfl) rfl (by kernel_rfl) rfl rfl rfl trivial ?_
        refine WH.pure 8 (by kernel_rfl) rfl (by kernel_rfl) rfl rfl rfl trivial ?_
        refine WH.done (by kernel_rfl) ?_
        exact ⟨(ib, lb, ob), ⟨rfl, rfl, rfl, rfl, rfl, rfl⟩, hm3.pick [2, 0, 1] (by decide)⟩
    · refine ⟨_, rfl, ?_⟩
      refine WL.make (m := N) rfl rfl rfl rfl rfl rfl rfl rfl (by show 8 * N ≤ _; omega) (by unfold maxLen; omega) (fun lb wm1 hb0 => ?_)
      have hm1 := hm0.new hb0
      refine WL.nil ⟨trivial, ?_⟩
      refine WH.many [1, 5] (by kernel_rfl) (by decide) ?_
      intro i hi
      simp only [List.mem_cons, List.not_mem_nil, or_false] at hi
      rcases hi with rfl | rfl
      · refine ⟨_, rfl, ?_⟩
        refine WL.make (m := N) rfl rfl rfl rfl rfl rfl rfl rfl (by show 8 * N ≤ _; omega) (by unfold maxLen; omega) (fun ib wm2 hb1 => ?_)
        have hm2 := hm1.new hb1
        refine WL.nil ⟨trivial, ?_⟩
        refine WH.pure 6 (by kernel_rfl) rfl (by kernel_rfl) rfl rfl rfl trivial ?_
        refine WH.pure 7 (by kernel_rfl) rfl (by kernel_rfl) rfl rfl rfl trivial ?_
        refine WH.one 5 rfl (by kernel_rfl) ?_
        refine WL.make (m := N) rfl rfl rfl rfl rfl rfl rfl rfl (by show 8 * N ≤ _; omega) (by unfold maxLen; omega) (fun ob wm3 hb2 => ?_)
        have hm3 := hm2.new hb2
        refine WL.nil ⟨trivial, ?_⟩
        refine WH.pure 8 (by kernel_rfl) rfl (by kernel_rfl) rfl rfl rfl trivial ?_
        refine WH.done (by kernel_rfl) ?_
        exact ⟨(ib, lb, ob), ⟨rfl, rfl, rfl, rfl, rfl, rfl⟩, hm3.pick [1, 2, 0] (by decide)⟩
      · refine ⟨_, rfl, ?_⟩
        refine WL.make (m := N) rfl rfl rfl rfl rfl rfl rfl rfl (by show 8 * N ≤ _; omega) (by unfold maxLen; omega) (fun ob wm2 hb1 => ?_)
        have hm2 := hm1.new hb1
        refine WL.nil ⟨trivial, ?_⟩
        refine WH.one 1 rfl (by kernel_rfl) ?_
        refine WL.make (m := N) rfl rfl rfl rfl rfl rfl rfl rfl (by show 8 * N ≤ _; omega) (by unfold maxLen; omega) (fun ib wm3 hb2 => ?_)
        have hm3 := hm2.new hb2
        refine WL.nil ⟨trivial, ?_⟩
        refine WH.pure 6 (by kernel_rfl) rfl (by kernel_rfl) rfl rfl rfl trivial ?_
        refine WH.pure 7 (by kernel_rfl) rfl (by kernel_rfl) rfl rfl rfl trivial ?_
        refine WH.pure 8 (by kernel_rfl) rfl (by kernel_rfl) rfl rfl rfl trivial ?_
        refine WH.done (by kernel_rfl) ?_
        exact ⟨(ib, lb, ob), ⟨rfl, rfl, rfl, rfl, rfl, rfl⟩, hm3.pick [0, 2, 1] (by decide)⟩
    · refine ⟨_, rfl, ?_⟩
      refine WL.make (m := N) rfl rfl rfl rfl rfl rfl rfl rfl (by show 8 * N ≤ _; omega) (by unfold maxLen; omega) (fun ob wm1 hb0 => ?_)
      have hm1 := hm0.new hb0
      refine WL.nil ⟨trivial, ?_⟩
      refine WH.many [1, 3] (by kernel_rfl) (by decide) ?_
      intro i hi
      simp only [List.mem_cons, List.not_mem_nil, or_false] at hi
      rcases hi with rfl | rfl
      · refine ⟨_, rfl, ?_⟩
        refine WL.make (m := N) rfl rfl rfl rfl rfl rfl rfl rfl (by show 8 * N ≤ _; omega) (by unfold maxLen; omega) (fun ib wm2 hb1 => ?_)
        have hm2 := hm1.new hb1
        refine WL.nil ⟨trivial, ?_⟩
        refine WH.pure 6 (by kernel_rfl) rfl (by kernel_rfl) rfl rfl rfl trivial ?_
        refine WH.one 3 rfl (by kernel_rfl) ?_
        refine WL.make (m := N) rfl rfl rfl rfl rfl rfl rfl rfl (by show 8 * N ≤ _; omega) (by unfold maxLen; omega) (fun lb wm3 hb2 => ?_)
        have hm3 := hm2.new hb2
        refine WL.nil ⟨trivial, ?_⟩
        refine WH.pure 7 (by kernel_rfl) rfl (by kernel_rfl) rfl rfl rfl trivial ?_
        refine WH.pure 8 (by kernel_rfl) rfl (by kernel_rfl) rfl rfl rfl trivial ?_
        refine WH.done (by kernel_rfl) ?_
        exact ⟨(ib, lb, ob), ⟨rfl, rfl, rfl, rfl, rfl, rfl⟩, hm3.pick [1, 0, 2] (by decide)⟩
      · refine ⟨_, rfl, ?_⟩
        refine WL.make (m := N) rfl rfl rfl rfl rfl rfl rfl rfl (by show 8 * N ≤ _; omega) (by unfold maxLen; omega) (fun lb wm2 hb1 => ?_)
        have hm2 := hm1.new hb1
        refine WL.nil ⟨trivial, ?_⟩
        refine WH.one 1 rfl (by kernel_rfl) ?_
        refine WL.make (m := N) rfl rfl rfl rfl rfl rfl rfl rfl (by show 8 * N ≤ _; omega) (by unfold maxLen; omega) (fun ib wm3 hb2 => ?_)
        have hm3 := hm2.new hb2
        refine WL.nil ⟨trivial, ?_⟩
        refine WH.pure 6 (by kernel_rfl) rfl (by kernel_rfl) rfl rfl rfl trivial ?_
        refine WH.pure 7 (by kernel_rfl) rfl (by kernel_rfl) rfl rfl rfl trivial ?_
        refine WH.pure 8 (by kernel_rfl) rfl (by kernel_rfl) rfl rfl rfl trivial ?_
        refine WH.done (by kernel_rfl) ?_
        exact ⟨(ib, lb, ob), ⟨rfl, rfl, rfl, rfl, rfl, rfl⟩, hm3.pick [0, 1, 2] (by decide)⟩
  rintro ⟨ib, lb, ob⟩ e1 w1 hsub hp1
  replace hp1 : Hp w w1 [cE ib (List.replicate N 0), cE lb (List.replicate N 0), cE ob (List.replicate N 0)] := hp1
  refine WC.sub hsub ?_
  clear hsub e1
  repeat (first | refine WC.seq ?_ | refine WC.reg ?_ | refine WL.pure rfl rfl rfl ?_ | refine WL.nil ?_ | refine WC.skip ?_ | refine WC.block ?_ | refine WC.condT rfl ?_ | refine WC.condF rfl ?_ | refine WL.off rfl rfl rfl ?_ | refine WL.off0 rfl rfl ?_ | refine WC.exit ?_ | refine blk_hit ?_ | refine blk_miss rfl ?_ | refine WC.ret ?_)
  refine WL.make (m := N) rfl rfl rfl rfl rfl rfl rfl rfl (by show 8 * N ≤ _; omega) (by unfold maxLen; omega) (fun ab w2 h2 => ?_)
  have hp2 := hp1.new h2
  rw [show ti3.zero = Value.int .i64 0 from rfl, natL_zero] at hp2
  have hp3 := ((hp2.nilrow 3 1).nilrow 3 1).pick [3, 4, 5, 2, 0, 1] (by decide)
  replace hp3 : Hp w w2 (cpL ib lb ob ab (tj0 N) none 0 none 0) := hp3
  clear hp2 hp1
  unfold compM at hM
  rw [rsN_len, hN] at hM
  obtain ⟨sF, hC, hsF⟩ := Option.map_eq_some_iff.1 hM
  have hok0 : TjOk N F (tj0 N) F := ⟨by simp [tj0], by simp [tj0], by simp [tj0], by simp [tj0], fun x hx => by simp [tj0] at hx, fun x hx => by simp [tj0] at hx, by simp [tj0], by simp [tj0], by simp [tj0], by simp [tj0]⟩
  repeat (first | refine WC.seq ?_ | refine WC.reg ?_ | refine WL.pure rfl rfl rfl ?_ | refine WL.nil ?_ | refine WC.skip ?_ | refine WC.block ?_ | refine WC.condT rfl ?_ | refine WC.condF rfl ?_ | refine WL.off rfl rfl rfl ?_ | refine WL.off0 rfl rfl ?_ | refine WC.exit ?_ | refine blk_hit ?_ | refine blk_miss rfl ?_ | refine WC.ret ?_)
  refine WC.loop (Nat × Nat × Tj × Option Addr × Nat × Option Addr × Nat) (fun (root, f, s, sa, sc, pa, pc) => cpE an cn N ib lb ob ab root s sa sc pa pc)
    (fun (root, f, s, sa, sc, pa, pc) w' => root ≤ N ∧ compRoots (rsN rs) (N - root) root f s = some sF ∧ s.path = [] ∧ TjOk N F s f ∧ Hp w w' (cpL ib lb ob ab s sa sc pa pc)) (fun (root, _) => N - root) (0, F, tj0 N, none, 0, none, 0) ⟨rfl, rfl, rfl, rfl, rfl, rfl, rfl, rfl, rfl, rfl, rfl, rfl, rfl⟩ ⟨Nat.zero_le _, by rw [Nat.sub_zero]; exact hC, rfl, hok0, hp3⟩ ?_
  clear hp3 hok0 hC hM
  rintro ⟨root, f, s, sa, sc, pa, pc⟩ w3 ⟨hr, hC, hpn, hok, hp3⟩
  replace hr : root ≤ N := hr
  replace hC : compRoots (rsN rs) (N - root) root f s = some sF := hC
  replace hpn : s.path = [] := hpn
  replace hok : TjOk N F s f := hok
  replace hp3 : Hp w w3 (cpL ib lb ob ab s sa sc pa pc) := hp3
  repeat (first | refine WC.seq ?_ | refine WC.reg ?_ | refine WL.pure rfl rfl rfl ?_ | refine WL.nil ?_ | refine WC.skip ?_ | refine WC.block ?_ | refine WC.condT rfl ?_ | refine WC.condF rfl ?_ | refine WL.off rfl rfl rfl ?_ | refine WL.off0 rfl rfl ?_ | refine WC.exit ?_ | refine blk_hit ?_ | refine blk_miss rfl ?_ | refine WC.ret ?_)
  refine WC.cond rfl (fun c1 => ?_) (fun c1 => ?_)
  · have hr : root < N := by have := of_decide_eq_true c1; omega
    have step := wrap_succ (i := root) (n := root + 1) (by omega) (by omega)
    rw [show N - root = N - (root + 1) + 1 by omega] at hC
    unfold compRoots at hC
    refine WC.skip ?_
    refine WC.seq ?_
    refine WC.mid (Nat × Tj × Option Addr × Nat × Option Addr × Nat) (fun (f, s, sa, sc, pa, pc) => cpE an cn N ib lb ob ab root s sa sc pa pc)
      (fun (f, s, sa, sc, pa, pc) w' => compRoots (rsN rs) (N - (root + 1)) (root + 1) f s = some sF ∧ s.path = [] ∧ TjOk N F s f ∧ Hp w w' (cpL ib lb ob ab s sa sc pa pc)) ?_ ?_
    · repeat (first | refine WC.seq ?_ | refine WC.reg ?_ | refine WL.pure rfl rfl rfl ?_ | refine WL.nil ?_ | refine WC.skip ?_ | refine WC.block ?_ | refine WC.condT rfl ?_ | refine WC.condF rfl ?_ | refine WL.off rfl rfl rfl ?_ | refine WL.off0 rfl rfl ?_ | refine WC.exit ?_ | refine blk_hit ?_ | refine blk_miss rfl ?_ | refine WC.ret ?_)
      refine WL.ixload rfl (fun _ => rfl) rfl rfl rfl rfl rfl rfl rfl hr rfl rfl (cE_sl hp3 0 rfl) (nd hok.i hr) ?_
      intro q
      repeat (first | refine WC.seq ?_ | refine WC.reg ?_ | refine WL.pure rfl rfl rfl ?_ | refine WL.nil ?_ | refine WC.skip ?_ | refine WC.block ?_ | refine WC.condT rfl ?_ | refine WC.condF rfl ?_ | refine WL.off rfl rfl rfl ?_ | refine WL.off0 rfl rfl ?_ | refine WC.exit ?_ | refine blk_hit ?_ | refine blk_miss rfl ?_ | refine WC.ret ?_)
      refine WC.cond rfl (fun c2 => ?_) (fun c2 => ?_)
      · have c2 : s.index.getD root 0 ≠ 0 := by simpa using c2
        rw [if_pos c2] at hC
        repeat (first | refine WC.seq ?_ | refine WC.reg ?_ | refine WL.pure rfl rfl rfl ?_ | refine WL.nil ?_ | refine WC.skip ?_ | refine WC.block ?_ | refine WC.condT rfl ?_ | refine WC.condF rfl ?_ | refine WL.off rfl rfl rfl ?_ | refine WL.off0 rfl rfl ?_ | refine WC.exit ?_ | refine blk_hit ?_ | refine blk_miss rfl ?_ | refine WC.ret ?_)
        exact ⟨(f, s, sa, sc, pa, pc), ⟨rfl, rfl, rfl, rfl, rfl, rfl, rfl, rfl, rfl, rfl, rfl, rfl, rfl⟩, hC, hpn, hok, hp3⟩
      · have c2 : ¬ s.index.getD root 0 ≠ 0 := by simpa using c2
        rw [if_neg c2] at hC
        cases hR : tjRun (rsN rs) f { s with path := [root] } with
        | none => rw [hR] at hC; cases hC
        | some fs' =>
        obtain ⟨f', s'⟩ := fs'
        rw [hR] at hC
        simp only at hC
        obtain ⟨ix, lw, of0, at0, sk, pth, ct, nm⟩ := s
        simp only at hpn
        subst hpn
        obtain ⟨ki, kl, ko, ka, kp, kk, kc, km, kkl, kpl⟩ := hok
        simp only at ki kl ko ka kp kk kc km kkl kpl
        repeat (first | refine WC.seq ?_ | refine WC.reg ?_ | refine WL.pure rfl rfl rfl ?_ | refine WL.nil ?_ | refine WC.skip ?_ | refine WC.block ?_ | refine WC.condT rfl ?_ | refine WC.condF rfl ?_ | refine WL.off rfl rfl rfl ?_ | refine WL.off0 rfl rfl ?_ | refine WC.exit ?_ | refine blk_hit ?_ | refine blk_miss rfl ?_ | refine WC.ret ?_)
        refine WL.buildS (cs := [.int .i64 (root : Nat)]) rfl rfl rfl rfl rfl rfl rfl rfl rfl (fun b4 w4 h4 => ?_)
        have hp4 := hp3.new h4
        refine WL.append 6 hp4 rfl rfl rfl rfl rfl (by decide) rfl rfl rfl (news := [.int .i64 (root : Nat)]) (Sl.of_obj (hp4.obj 0 rfl) (fun q u hq => by simpa using hq)) rfl (natL_cells [root]) (by show 0 + 1 ≤ maxLen; decide) (by show (0 + 1) * 8 ≤ 140737488355328; decide) ?_
        intro pa2 pc2 w5 hp5 _
        replace hp5 : Hp w w5 (cpL ib lb ob ab ⟨ix, lw, of0, at0, sk, [root], ct, nm⟩ sa sc pa2 pc2) := hp5.tail
        repeat (first | refine WC.seq ?_ | refine WC.reg ?_ | refine WL.pure rfl rfl rfl ?_ | refine WL.nil ?_ | refine WC.skip ?_ | refine WC.block ?_ | refine WC.condT rfl ?_ | refine WC.condF rfl ?_ | refine WL.off rfl rfl rfl ?_ | refine WL.off0 rfl rfl ?_ | refine WC.exit ?_ | refine blk_hit ?_ | refine blk_miss rfl ?_ | refine WC.ret ?_)
        refine WC.loop (Nat × Tj × Option Addr × Nat × Option Addr × Nat) (fun (f, s, sa, sc, pa, pc) => cpE an cn N ib lb ob ab root s sa sc pa pc)
          (fun (f, s, sa, sc, pa, pc) w' => tjRun (rsN rs) f s = some (f', s') ∧ TjOk N F s f ∧ Hp w w' (cpL ib lb ob ab s sa sc pa pc)) (fun (f, _) => f) (f, ⟨ix, lw, of0, at0, sk, [root], ct, nm⟩, sa, sc, pa2, pc2) ⟨rfl, rfl, rfl, rfl, rfl, rfl, rfl, rfl, rfl, rfl, rfl, rfl, rfl⟩
          ⟨hR, ⟨ki, kl, ko, ka, mem_set (fun x hx => by cases hx) hr, kk, kc, km, kkl, by show 1 + f ≤ F + 1; omega⟩, hp5⟩ ?_
        clear hp5 hp4 hp3 hR ki kl ko ka kp kk kc km kkl kpl
        rintro ⟨f, ⟨ix, lw, of0, at0, sk, pth, ct, nm⟩, sa, sc, pa, pc⟩ w6 ⟨hR, hok, hp6⟩
        replace hR : tjRun (rsN rs) f ⟨ix, lw, of0, at0, sk, pth, ct, nm⟩ = some (f', s') := hR
        replace hok : TjOk N F ⟨ix, lw, of0, at0, sk, pth, ct, nm⟩ f := hok
        replace hp6 : Hp w w6 (cpL ib lb ob ab ⟨ix, lw, of0, at0, sk, pth, ct, nm⟩ sa sc pa pc) := hp6
        repeat (first | refine WC.seq ?_ | refine WC.reg ?_ | refine WL.pure rfl rfl rfl ?_ | refine WL.nil ?_ | refine WC.skip ?_ | refine WC.block ?_ | refine WC.condT rfl ?_ | refine WC.condF rfl ?_ | refine WL.off rfl rfl rfl ?_ | refine WL.off0 rfl rfl ?_ | refine WC.exit ?_ | refine blk_hit ?_ | refine blk_miss rfl ?_ | refine WC.ret ?_)
        refine WC.cond rfl (fun c3 => ?_) (fun c3 => ?_)
        · have c3 : 0 < pth.length := by have h : (0 : Int) < ((pth.length : Nat) : Int) := of_decide_eq_true c3; omega
          obtain ⟨v, rest, rfl⟩ : ∃ v rest, pth = v :: rest := by
            cases pth with
            | nil => exact absurd c3 (Nat.lt_irrefl _)
            | cons v rest => exact ⟨v, rest, rfl⟩
          obtain ⟨f0, s2, rfl, hturn, hR2⟩ := tjRun_step hR rfl
          clear hR
          have hv : v < N := hok.p v (by simp)
          have hpl0 : rest.length + 1 + (f0 + 1) ≤ F + 1 := hok.pl
          have e45 : IntKind.i64.wrap (((v :: rest).length : Nat) - 1 : Int) = ((rest.length : Nat) : Int) := by
            have := hok.pl
            simp only [List.length_cons] at this ⊢
            rw [wrap_mid (by omega) (by omega)]; omega
          refine WC.skip ?_
          refine WC.block ?_
          refine WC.seq ?_
          refine WC.reg ?_
          refine WL.pure rfl rfl rfl ?_
          refine WL.pure rfl rfl rfl ?_
          refine WL.pure rfl rfl rfl ?_
          refine WL.pure rfl rfl rfl ?_
          refine WL.known (d := 45) (congrArg (fun z => some (Value.int .i64 z)) e45) ?_
          refine WL.ixload (j := rest.length) rfl (fun _ => rfl) rfl rfl rfl rfl rfl rfl rfl (Nat.lt_succ_self _) rfl rfl (stE_sl hp6 5 rfl) (top_at v rest) ?_
          intro q
          refine WL.pure rfl rfl rfl ?_
          refine WL.nil ?_
          refine WC.seq ?_
          refine WC.mid (Tj × Option Addr × Nat) (fun (s, sa, sc) => (13, .int .i64 (v : Nat)) :: cpE an cn N ib lb ob ab root s sa sc pa pc)
            (fun (s, sa, sc) w' => s = tjEnter ⟨ix, lw, of0, at0, sk, v :: rest, ct, nm⟩ v ∧ TjOk N F s f0 ∧ s.number + (f0 + 1) ≤ F ∧ Hp w w' (cpL ib lb ob ab s sa sc pa pc)) ?_ ?_
          · repeat (first | refine WC.seq ?_ | refine WC.reg ?_ | refine WL.pure rfl rfl rfl ?_ | refine WL.nil ?_ | refine WC.skip ?_ | refine WC.block ?_ | refine WC.condT rfl ?_ | refine WC.condF rfl ?_ | refine WL.off rfl rfl rfl ?_ | refine WL.off0 rfl rfl ?_ | refine WC.exit ?_ | refine blk_hit ?_ | refine blk_miss rfl ?_ | refine WC.ret ?_)
            refine WL.ixload rfl (fun _ => rfl) rfl rfl rfl rfl rfl rfl rfl hv rfl rfl (cE_sl hp6 0 rfl) (nd hok.i hv) ?_
            intro q
            obtain ⟨ki, kl, ko, ka, kp, kk, kc, km, kkl, kpl⟩ := hok
            simp only at ki kl ko ka kp kk kc km kkl kpl
            repeat (first | refine WC.seq ?_ | refine WC.reg ?_ | refine WL.pure rfl rfl rfl ?_ | refine WL.nil ?_ | refine WC.skip ?_ | refine WC.block ?_ | refine WC.condT rfl ?_ | refine WC.condF rfl ?_ | refine WL.off rfl rfl rfl ?_ | refine WL.off0 rfl rfl ?_ | refine WC.exit ?_ | refine blk_hit ?_ | refine blk_miss rfl ?_ | refine WC.ret ?_)
            refine WC.cond rfl (fun c4 => ?_) (fun c4 => ?_)
            · have c4 : ix.getD v 0 = 0 := by simpa using c4
              have stc := wrap_succ (i := ct) (n := ct + 1) (by omega) (by omega)
              refine WC.seq ?_
              refine WC.reg ?_
              refine WL.pure rfl rfl rfl ?_
              refine WL.pure rfl rfl rfl ?_
              refine WL.known (d := 54) (congrArg (fun z => some (Value.int .i64 z)) stc) ?_
              repeat (first | refine WC.seq ?_ | refine WC.reg ?_ | refine WL.pure rfl rfl rfl ?_ | refine WL.nil ?_ | refine WC.skip ?_ | refine WC.block ?_ | refine WC.condT rfl ?_ | refine WC.condF rfl ?_ | refine WL.off rfl rfl rfl ?_ | refine WL.off0 rfl rfl ?_ | refine WC.exit ?_ | refine blk_hit ?_ | refine blk_miss rfl ?_ | refine WC.ret ?_)
              refine WL.ix1 rfl rfl rfl rfl rfl rfl rfl hv ?_
              rw [Nat.zero_add]
              refine WL.store rfl rfl rfl rfl rfl rfl (hp6.obj 0 rfl) (cE_room ki hv) (fun w7 h7 => ?_)
              have hp7 := cE_set hp6 0 rfl rfl h7
              refine WL.ix1 rfl rfl rfl rfl rfl rfl rfl hv ?_
              rw [Nat.zero_add]
              refine WL.store rfl rfl rfl rfl rfl rfl (hp7.obj 1 rfl) (cE_room kl hv) (fun w8 h8 => ?_)
              have hp8 := cE_set hp7 1 rfl rfl h8
              repeat (first | refine WC.seq ?_ | refine WC.reg ?_ | refine WL.pure rfl rfl rfl ?_ | refine WL.nil ?_ | refine WC.skip ?_ | refine WC.block ?_ | refine WC.condT rfl ?_ | refine WC.condF rfl ?_ | refine WL.off rfl rfl rfl ?_ | refine WL.off0 rfl rfl ?_ | refine WC.exit ?_ | refine blk_hit ?_ | refine blk_miss rfl ?_ | refine WC.ret ?_)
              refine WL.buildS (cs := [.int .i64 (v : Nat)]) rfl rfl rfl rfl rfl rfl rfl rfl rfl (fun b9 w9 h9 => ?_)
              have hp9 := hp8.new h9
              refine WL.append 5 hp9 rfl rfl rfl rfl rfl (by decide) rfl rfl rfl (news := [.int .i64 (v : Nat)]) (Sl.of_obj (hp9.obj 0 rfl) (fun q u hq => by simpa using hq)) rfl (natL_cells [v]) (by unfold maxLen; show sk.length + 1 ≤ _; omega) (by show (sk.length + 1) * 8 ≤ _; omega) ?_
              intro sa2 sc2 w10 hp10 _
              repeat (first | refine WC.seq ?_ | refine WC.reg ?_ | refine WL.pure rfl rfl rfl ?_ | refine WL.nil ?_ | refine WC.skip ?_ | refine WC.block ?_ | refine WC.condT rfl ?_ | refine WC.condF rfl ?_ | refine WL.off rfl rfl rfl ?_ | refine WL.off0 rfl rfl ?_ | refine WC.exit ?_ | refine blk_hit ?_ | refine blk_miss rfl ?_ | refine WC.ret ?_)
              refine ⟨(⟨ix.set v (ct + 1), lw.set v (ct + 1), of0, at0, v :: sk, v :: rest, ct + 1, nm⟩, sa2, sc2), ⟨rfl, rfl, rfl, rfl, rfl, rfl, rfl, rfl, rfl, rfl, rfl, rfl, rfl, rfl⟩, ?_, ?_, km, ?_⟩
              · show _ = tjEnter _ _
                unfold tjEnter
                rw [if_pos c4]
              · exact ⟨by simpa using ki, by simpa using kl, ko, ka, kp, mem_set kk hv, by show ct + 1 + f0 ≤ F; omega, by show nm + f0 ≤ F; omega, by show sk.length + 1 + f0 ≤ F; omega, by show (v :: rest).length + f0 ≤ F + 1; omega⟩
              · show Hp w w10 [_, _, _, _, stE sa2 sc2 (v :: sk), _]
                rw [stE_push]
                exact hp10.tail
            · have c4 : ¬ ix.getD v 0 = 0 := by simpa using c4
              repeat (first | refine WC.seq ?_ | refine WC.reg ?_ | refine WL.pure rfl rfl rfl ?_ | refine WL.nil ?_ | refine WC.skip ?_ | refine WC.block ?_ | refine WC.condT rfl ?_ | refine WC.condF rfl ?_ | refine WL.off rfl rfl rfl ?_ | refine WL.off0 rfl rfl ?_ | refine WC.exit ?_ | refine blk_hit ?_ | refine blk_miss rfl ?_ | refine WC.ret ?_)
              refine ⟨(⟨ix, lw, of0, at0, sk, v :: rest, ct, nm⟩, sa, sc), ⟨rfl, rfl, rfl, rfl, rfl, rfl, rfl, rfl, rfl, rfl, rfl, rfl, rfl, rfl⟩, ?_, ?_, km, hp6⟩
              · show _ = tjEnter _ _
                unfold tjEnter
                rw [if_neg c4]
              · exact ⟨ki, kl, ko, ka, kp, kk, by show ct + f0 ≤ F; omega, by show nm + f0 ≤ F; omega, by show sk.length + f0 ≤ F; omega, by show (v :: rest).length + f0 ≤ F + 1; omega⟩
          rintro ⟨s1, sa, sc⟩ e7 w7 hsub ⟨hs1, hok, hnm, hp7⟩
          replace hnm : s1.number + (f0 + 1) ≤ F := hnm
          replace hs1 : s1 = tjEnter ⟨ix, lw, of0, at0, sk, v :: rest, ct, nm⟩ v := hs1
          replace hok : TjOk N F s1 f0 := hok
          replace hp7 : Hp w w7 (cpL ib lb ob ab s1 sa sc pa pc) := hp7
          refine WC.sub hsub ?_
          clear hsub e7 hp6
          rw [← hs1] at hturn
          have hpth : s1.path = v :: rest := by rw [hs1, tjEnter_path]
          clear hs1 e45
          obtain ⟨ix, lw, of0, at0, sk, pth, ct, nm⟩ := s1
          simp only at hpth
          subst hpth
          simp only at hnm
          obtain ⟨ki, kl, ko, ka, kp, kk, kc, km, kkl, kpl⟩ := hok
          simp only at ki kl ko ka kp kk kc km kkl kpl
          have e45 : IntKind.i64.wrap (((v :: rest).length : Nat) - 1 : Int) = ((rest.length : Nat) : Int) := by
            simp only [List.length_cons] at kpl ⊢
            rw [wrap_mid (by omega) (by omega)]; omega
          have hvr : v < rs.length := by omega
          have hrb := hrow _ (List.getElem_mem hvr)
          have hrin := hin _ (List.getElem_mem hvr)
          have hrs := hT.rows _ (List.getElem_mem hvr)
          obtain ⟨ta, to, hta, htc⟩ := hT.tab _ _ (rsV_at hvr)
          unfold tjTurn at hturn
          rw [rsN_at hvr] at hturn
          generalize rs[v] = r at *
          obtain ⟨ra, rc, row⟩ := r
          simp only at hrb hrin hrs htc hturn
          subst hta
          refine WC.seq ?_
          refine WC.seq ?_
          refine WC.regQ (fun w' => Hp w w' (cpL ib lb ob ab ⟨ix, lw, of0, at0, sk, v :: rest, ct, nm⟩ sa sc pa pc)) mixed (by kernel_rfl) (fun w' hw' => hp7.keep hw') ?_
          repeat (first | refine WQ.pure rfl rfl rfl ?_ | refine WQ.off rfl rfl rfl ?_ | refine WQ.nil ?_)
          refine WQ.ixload rfl (fun _ => rfl) rfl rfl rfl rfl rfl rfl rfl hv rfl rfl (fun w' h => Sl.cell (cE_sl h 3 rfl) (nd ka hv)) ?_
          repeat (first | refine WQ.pure rfl rfl rfl ?_ | refine WQ.off rfl rfl rfl ?_ | refine WQ.nil ?_)
          refine WQ.ixload rfl (fun _ => rfl) rfl rfl rfl rfl rfl rfl rfl hv rfl rfl (fun w' h => cell_below h.below htc) ?_
          repeat (first | refine WQ.pure rfl rfl rfl ?_ | refine WQ.off rfl rfl rfl ?_ | refine WQ.nil ?_)
          intro w8 hp8
          clear hp7
          refine WC.cond rfl (fun c5 => ?_) (fun c5 => ?_)
          · have c5 : at0.getD v 0 < row.length := by have h : ((at0.getD v 0 : Nat) : Int) < ((row.length : Nat) : Int) := of_decide_eq_true c5; omega
            rw [if_pos c5] at hturn
            obtain ⟨u, hu⟩ : ∃ u, u = row.getD (at0.getD v 0) 0 := ⟨_, rfl⟩
            rw [← hu] at hturn
            have hu1 : row[at0.getD v 0]? = some u := by rw [hu]; exact getD_some c5
            have huN : u < N := hrin u (List.mem_of_getElem? hu1)
            have hun : (natL row)[at0.getD v 0]? = some (.int .i64 (u : Nat)) := by rw [natL_get c5, hu]
            obtain ⟨rb, ro, rfl, hrcell⟩ := hrs _ _ hun
            have sta := wrap_succ (i := at0.getD v 0) (n := at0.getD v 0 + 1) (by omega) (by omega)
            simp only [Option.some.injEq] at hturn
            repeat (first | refine WC.seq ?_ | refine WC.skip ?_ | refine WC.block ?_)
            refine WC.regQ (fun w' => Hp w w' (cpL ib lb ob ab ⟨ix, lw, of0, at0, sk, v :: rest, ct, nm⟩ sa sc pa pc)) mixed (by kernel_rfl) (fun w' hw' => hp8.keep hw') ?_
            repeat (first | refine WQ.pure rfl rfl rfl ?_ | refine WQ.off rfl rfl rfl ?_ | refine WQ.nil ?_)
            refine WQ.ixload rfl (fun _ => rfl) rfl rfl rfl rfl rfl rfl rfl hv rfl rfl (fun w' h => cell_below h.below htc) ?_
            repeat (first | refine WQ.pure rfl rfl rfl ?_ | refine WQ.off rfl rfl rfl ?_ | refine WQ.nil ?_)
            refine WQ.ixload rfl (fun _ => rfl) rfl rfl rfl rfl rfl rfl rfl hv rfl rfl (fun w' h => Sl.cell (cE_sl h 3 rfl) (nd ka hv)) ?_
            refine WQ.ixload rfl (fun _ => rfl) rfl rfl rfl rfl rfl rfl rfl c5 rfl rfl (fun w' h => cell_below h.below hrcell) ?_
            repeat (first | refine WQ.pure rfl rfl rfl ?_ | refine WQ.off rfl rfl rfl ?_ | refine WQ.nil ?_)
            intro w9 hp9
            clear hp8
            repeat (first | refine WC.seq ?_ | refine WC.reg ?_ | refine WL.pure rfl rfl rfl ?_ | refine WL.nil ?_ | refine WC.skip ?_ | refine WC.block ?_ | refine WC.condT rfl ?_ | refine WC.condF rfl ?_ | refine WL.off rfl rfl rfl ?_ | refine WL.off0 rfl rfl ?_ | refine WC.exit ?_ | refine blk_hit ?_ | refine blk_miss rfl ?_ | refine WC.ret ?_)
            refine WL.ixload rfl (fun _ => rfl) rfl rfl rfl rfl rfl rfl rfl hv rfl rfl (cE_sl hp9 3 rfl) (nd ka hv) ?_
            intro q
            refine WL.pure rfl rfl rfl ?_
            refine WL.known (d := 91) (congrArg (fun z => some (Value.int .i64 z)) sta) ?_
            refine WL.ix1 rfl rfl rfl rfl rfl rfl rfl hv ?_
            rw [Nat.zero_add]
            refine WL.store rfl rfl rfl rfl rfl rfl (hp9.obj 3 rfl) (cE_room ka hv) (fun w10 h10 => ?_)
            have hp10 : Hp w w10 (cpL ib lb ob ab ⟨ix, lw, of0, at0.set v (at0.getD v 0 + 1), sk, v :: rest, ct, nm⟩ sa sc pa pc) := cE_set hp9 3 rfl rfl h10
            repeat (first | refine WC.seq ?_ | refine WC.reg ?_ | refine WL.pure rfl rfl rfl ?_ | refine WL.nil ?_ | refine WC.skip ?_ | refine WC.block ?_ | refine WC.condT rfl ?_ | refine WC.condF rfl ?_ | refine WL.off rfl rfl rfl ?_ | refine WL.off0 rfl rfl ?_ | refine WC.exit ?_ | refine blk_hit ?_ | refine blk_miss rfl ?_ | refine WC.ret ?_)
            refine WL.ixload rfl (fun _ => rfl) rfl rfl rfl rfl rfl rfl rfl huN rfl rfl (cE_sl hp10 0 rfl) (nd ki huN) ?_
            intro q
            repeat (first | refine WC.seq ?_ | refine WC.reg ?_ | refine WL.pure rfl rfl rfl ?_ | refine WL.nil ?_ | refine WC.skip ?_ | refine WC.block ?_ | refine WC.condT rfl ?_ | refine WC.condF rfl ?_ | refine WL.off rfl rfl rfl ?_ | refine WL.off0 rfl rfl ?_ | refine WC.exit ?_ | refine blk_hit ?_ | refine blk_miss rfl ?_ | refine WC.ret ?_)
            unfold tjGo tjNext at hturn
            simp only at hturn
            refine WC.cond rfl (fun c6 => ?_) (fun c6 => ?_)
            · have c6 : ix.getD u 0 = 0 := by simpa using c6
              rw [if_pos c6] at hturn
              subst hturn
              repeat (first | refine WC.seq ?_ | refine WC.reg ?_ | refine WL.pure rfl rfl rfl ?_ | refine WL.nil ?_ | refine WC.skip ?_ | refine WC.block ?_ | refine WC.condT rfl ?_ | refine WC.condF rfl ?_ | refine WL.off rfl rfl rfl ?_ | refine WL.off0 rfl rfl ?_ | refine WC.exit ?_ | refine blk_hit ?_ | refine blk_miss rfl ?_ | refine WC.ret ?_)
              refine WL.buildS (cs := [.int .i64 (u : Nat)]) rfl rfl rfl rfl rfl rfl rfl rfl rfl (fun b11 w11 h11 => ?_)
              have hp11 := hp10.new h11
              refine WL.append 6 hp11 rfl rfl rfl rfl rfl (by decide) rfl rfl rfl (news := [.int .i64 (u : Nat)]) (Sl.of_obj (hp11.obj 0 rfl) (fun q u hq => by simpa using hq)) rfl (natL_cells [u]) (by unfold maxLen; show (v :: rest).length + 1 ≤ _; omega) (by show ((v :: rest).length + 1) * 8 ≤ _; omega) ?_
              intro pa2 pc2 w12 hp12 _
              repeat (first | refine WC.seq ?_ | refine WC.reg ?_ | refine WL.pure rfl rfl rfl ?_ | refine WL.nil ?_ | refine WC.skip ?_ | refine WC.block ?_ | refine WC.condT rfl ?_ | refine WC.condF rfl ?_ | refine WL.off rfl rfl rfl ?_ | refine WL.off0 rfl rfl ?_ | refine WC.exit ?_ | refine blk_hit ?_ | refine blk_miss rfl ?_ | refine WC.ret ?_)
              refine ⟨(f0, ⟨ix, lw, of0, at0.set v (at0.getD v 0 + 1), sk, u :: v :: rest, ct, nm⟩, sa, sc, pa2, pc2), Nat.lt_succ_self f0, ⟨rfl, rfl, rfl, rfl, rfl, rfl, rfl, rfl, rfl, rfl, rfl, rfl, rfl⟩, hR2, ?_, ?_⟩
              · exact ⟨ki, kl, ko, by simpa using ka, mem_set kp huN, kk, kc, km, kkl, by show rest.length + 1 + 1 + f0 ≤ F + 1; omega⟩
              · show Hp w w12 [_, _, _, _, _, stE pa2 pc2 (u :: v :: rest)]
                rw [stE_push]
                exact hp12.tail
            · have c6 : ¬ ix.getD u 0 = 0 := by simpa using c6
              rw [if_neg c6] at hturn
              repeat (first | refine WC.seq ?_ | refine WC.reg ?_ | refine WL.pure rfl rfl rfl ?_ | refine WL.nil ?_ | refine WC.skip ?_ | refine WC.block ?_ | refine WC.condT rfl ?_ | refine WC.condF rfl ?_ | refine WL.off rfl rfl rfl ?_ | refine WL.off0 rfl rfl ?_ | refine WC.exit ?_ | refine blk_hit ?_ | refine blk_miss rfl ?_ | refine WC.ret ?_)
              refine WL.ixload rfl (fun _ => rfl) rfl rfl rfl rfl rfl rfl rfl huN rfl rfl (cE_sl hp10 2 rfl) (nd ko huN) ?_
              intro q
              repeat (first | refine WC.seq ?_ | refine WC.reg ?_ | refine WL.pure rfl rfl rfl ?_ | refine WL.nil ?_ | refine WC.skip ?_ | refine WC.block ?_ | refine WC.condT rfl ?_ | refine WC.condF rfl ?_ | refine WL.off rfl rfl rfl ?_ | refine WL.off0 rfl rfl ?_ | refine WC.exit ?_ | refine blk_hit ?_ | refine blk_miss rfl ?_ | refine WC.ret ?_)
              refine WC.cond rfl (fun c7 => ?_) (fun c7 => ?_)
              · have c7 : of0.getD u 0 = 0 := by simpa using c7
                rw [if_pos c7] at hturn
                subst hturn
                refine WC.regS 12 mixed (by kernel_rfl) rfl rfl (fun w11 hw11 hh11 => ?_)
                have hp11 := hp10.keep hw11
                repeat (first | refine WS.pure rfl rfl rfl ?_ | refine WS.off rfl rfl rfl ?_ | refine WS.nil ?_)
                refine WS.ix1 rfl rfl rfl rfl rfl rfl rfl hv ?_
                refine WS.load rfl rfl rfl rfl rfl (Sl.cell (cE_sl hp11 1 rfl) (nd kl hv)) ?_
                repeat (first | refine WS.pure rfl rfl rfl ?_ | refine WS.off rfl rfl rfl ?_ | refine WS.nil ?_)
                refine WS.ix1 rfl rfl rfl rfl rfl rfl rfl huN ?_
                refine WS.load rfl rfl rfl rfl rfl (Sl.cell (cE_sl hp11 0 rfl) (nd ki huN)) ?_
                repeat (first | refine WS.pure rfl rfl rfl ?_ | refine WS.off rfl rfl rfl ?_ | refine WS.nil ?_)
                refine WS.known (d := 117) (congrArg (fun z => some (Value.int .i64 z)) (cast_min (lw.getD v 0) (ix.getD u 0))) ?_
                refine WS.ix1 rfl rfl rfl rfl rfl rfl rfl hv ?_
                rw [Nat.zero_add]
                repeat (first | refine WS.pure rfl rfl rfl ?_ | refine WS.off rfl rfl rfl ?_ | refine WS.nil ?_)
                refine WL.store rfl rfl rfl rfl rfl rfl (hp11.obj 1 rfl) (cE_room kl hv) (fun w12 h12 => ?_)
                have hp12 : Hp w w12 (cpL ib lb ob ab ⟨ix, lw.set v (min (lw.getD v 0) (ix.getD u 0)), of0, at0.set v (at0.getD v 0 + 1), sk, v :: rest, ct, nm⟩ sa sc pa pc) := cE_set hp11 1 rfl rfl h12
                repeat (first | refine WC.seq ?_ | refine WC.reg ?_ | refine WL.pure rfl rfl rfl ?_ | refine WL.nil ?_ | refine WC.skip ?_ | refine WC.block ?_ | refine WC.condT rfl ?_ | refine WC.condF rfl ?_ | refine WL.off rfl rfl rfl ?_ | refine WL.off0 rfl rfl ?_ | refine WC.exit ?_ | refine blk_hit ?_ | refine blk_miss rfl ?_ | refine WC.ret ?_)
                exact ⟨(f0, ⟨ix, lw.set v (min (lw.getD v 0) (ix.getD u 0)), of0, at0.set v (at0.getD v 0 + 1), sk, v :: rest, ct, nm⟩, sa, sc, pa, pc), Nat.lt_succ_self f0, ⟨rfl, rfl, rfl, rfl, rfl, rfl, rfl, rfl, rfl, rfl, rfl, rfl, rfl⟩, hR2, ⟨ki, by simpa using kl, ko, by simpa using ka, kp, kk, kc, km, kkl, kpl⟩, hp12⟩
              · have c7 : ¬ of0.getD u 0 = 0 := by simpa using c7
                rw [if_neg c7] at hturn
                subst hturn
                repeat (first | refine WC.seq ?_ | refine WC.reg ?_ | refine WL.pure rfl rfl rfl ?_ | refine WL.nil ?_ | refine WC.skip ?_ | refine WC.block ?_ | refine WC.condT rfl ?_ | refine WC.condF rfl ?_ | refine WL.off rfl rfl rfl ?_ | refine WL.off0 rfl rfl ?_ | refine WC.exit ?_ | refine blk_hit ?_ | refine blk_miss rfl ?_ | refine WC.ret ?_)
                exact ⟨(f0, ⟨ix, lw, of0, at0.set v (at0.getD v 0 + 1), sk, v :: rest, ct, nm⟩, sa, sc, pa, pc), Nat.lt_succ_self f0, ⟨rfl, rfl, rfl, rfl, rfl, rfl, rfl, rfl, rfl, rfl, rfl, rfl, rfl⟩, hR2, ⟨ki, kl, ko, by simpa using ka, kp, kk, kc, km, kkl, kpl⟩, hp10⟩
          · have c5 : ¬ at0.getD v 0 < row.length := by have h : ¬ ((at0.getD v 0 : Nat) : Int) < ((row.length : Nat) : Int) := of_decide_eq_false c5; omega
            rw [if_neg c5] at hturn
            have hpc := hp8.capR 5 rfl
            repeat (first | refine WC.seq ?_ | refine WC.reg ?_ | refine WL.pure rfl rfl rfl ?_ | refine WL.nil ?_ | refine WC.skip ?_ | refine WC.block ?_ | refine WC.condT rfl ?_ | refine WC.condF rfl ?_ | refine WL.off rfl rfl rfl ?_ | refine WL.off0 rfl rfl ?_ | refine WC.exit ?_ | refine blk_hit ?_ | refine blk_miss rfl ?_ | refine WC.ret ?_)
            refine WL.known (d := 122) (congrArg (fun z => some (Value.int .i64 z)) e45) ?_
            refine WL.sliceHi (h := rest.length) rfl rfl rfl rfl rfl rfl (by have : rest.length + 1 ≤ pc := hpc; omega) ?_
            have hp9 : Hp w w8 [cE ib ix, cE lb lw, cE ob of0, cE ab at0, stE sa sc sk, stE pa pc rest] := hp8.rowCut 5 rfl (m := rest.length) (Nat.le_succ _) (by rw [top_take]; rfl)
            clear hp8
            refine WL.pure rfl rfl rfl ?_
            refine WL.nil ?_
            refine WC.seq ?_
            refine WC.mid Tj (fun s => (13, .int .i64 (v : Nat)) :: cpE (some ⟨ta, to, none⟩) cn N ib lb ob ab root s sa sc pa pc)
              (fun s w' => s = tjUp ⟨ix, lw, of0, at0, sk, v :: rest, ct, nm⟩ v rest ∧ TjOk N F s f0 ∧ s.number + (f0 + 1) ≤ F ∧ Hp w w' (cpL ib lb ob ab s sa sc pa pc)) ?_ ?_
            · repeat (first | refine WC.seq ?_ | refine WC.reg ?_ | refine WL.pure rfl rfl rfl ?_ | refine WL.nil ?_ | refine WC.skip ?_ | refine WC.block ?_ | refine WC.condT rfl ?_ | refine WC.condF rfl ?_ | refine WL.off rfl rfl rfl ?_ | refine WL.off0 rfl rfl ?_ | refine WC.exit ?_ | refine blk_hit ?_ | refine blk_miss rfl ?_ | refine WC.ret ?_)
              refine WC.cond rfl (fun c6 => ?_) (fun c6 => ?_)
              · obtain ⟨up, rest2, rfl⟩ : ∃ up rest2, rest = up :: rest2 := by
                  cases rest with
                  | nil => have := of_decide_eq_true c6; simp at this
                  | cons up rest2 => exact ⟨up, rest2, rfl⟩
                have hup : up < N := kp up (by simp)
                have e130 : IntKind.i64.wrap (((up :: rest2).length : Nat) - 1 : Int) = ((rest2.length : Nat) : Int) := by
                  simp only [List.length_cons] at kpl ⊢
                  rw [wrap_mid (by omega) (by omega)]; omega
                repeat (first | refine WC.seq ?_ | refine WC.reg ?_ | refine WL.pure rfl rfl rfl ?_ | refine WL.nil ?_ | refine WC.skip ?_ | refine WC.block ?_ | refine WC.condT rfl ?_ | refine WC.condF rfl ?_ | refine WL.off rfl rfl rfl ?_ | refine WL.off0 rfl rfl ?_ | refine WC.exit ?_ | refine blk_hit ?_ | refine blk_miss rfl ?_ | refine WC.ret ?_)
                refine WL.known (d := 130) (congrArg (fun z => some (Value.int .i64 z)) e130) ?_
                refine WL.ixload (j := rest2.length) rfl (fun _ => rfl) rfl rfl rfl rfl rfl rfl rfl (Nat.lt_succ_self _) rfl rfl (stE_sl hp9 5 rfl) (top_at up rest2) ?_
                intro q
                repeat (first | refine WC.seq ?_ | refine WC.reg ?_ | refine WL.pure rfl rfl rfl ?_ | refine WL.nil ?_ | refine WC.skip ?_ | refine WC.block ?_ | refine WC.condT rfl ?_ | refine WC.condF rfl ?_ | refine WL.off rfl rfl rfl ?_ | refine WL.off0 rfl rfl ?_ | refine WC.exit ?_ | refine blk_hit ?_ | refine blk_miss rfl ?_ | refine WC.ret ?_)
                refine WC.regS 12 mixed (by kernel_rfl) rfl rfl (fun w11 hw11 hh11 => ?_)
                have hp11 := hp9.keep hw11
                repeat (first | refine WS.pure rfl rfl rfl ?_ | refine WS.off rfl rfl rfl ?_ | refine WS.nil ?_)
                refine WS.ix1 rfl rfl rfl rfl rfl rfl rfl hup ?_
                refine WS.load rfl rfl rfl rfl rfl (Sl.cell (cE_sl hp11 1 rfl) (nd kl hup)) ?_
                repeat (first | refine WS.pure rfl rfl rfl ?_ | refine WS.off rfl rfl rfl ?_ | refine WS.nil ?_)
                refine WS.ix1 rfl rfl rfl rfl rfl rfl rfl hv ?_
                refine WS.load rfl rfl rfl rfl rfl (Sl.cell (cE_sl hp11 1 rfl) (nd kl hv)) ?_
                repeat (first | refine WS.pure rfl rfl rfl ?_ | refine WS.off rfl rfl rfl ?_ | refine WS.nil ?_)
                refine WS.known (d := 143) (congrArg (fun z => some (Value.int .i64 z)) (cast_min (lw.getD up 0) (lw.getD v 0))) ?_
                refine WS.ix1 rfl rfl rfl rfl rfl rfl rfl hup ?_
                rw [Nat.zero_add]
                repeat (first | refine WS.pure rfl rfl rfl ?_ | refine WS.off rfl rfl rfl ?_ | refine WS.nil ?_)
                refine WL.store rfl rfl rfl rfl rfl rfl (hp11.obj 1 rfl) (cE_room kl hup) (fun w12 h12 => ?_)
                have hp12 := cE_set hp11 1 rfl rfl h12
                repeat (first | refine WC.seq ?_ | refine WC.reg ?_ | refine WL.pure rfl rfl rfl ?_ | refine WL.nil ?_ | refine WC.skip ?_ | refine WC.block ?_ | refine WC.condT rfl ?_ | refine WC.condF rfl ?_ | refine WL.off rfl rfl rfl ?_ | refine WL.off0 rfl rfl ?_ | refine WC.exit ?_ | refine blk_hit ?_ | refine blk_miss rfl ?_ | refine WC.ret ?_)
                exact ⟨⟨ix, lw.set up (min (lw.getD up 0) (lw.getD v 0)), of0, at0, sk, up :: rest2, ct, nm⟩, ⟨rfl, rfl, rfl, rfl, rfl, rfl, rfl, rfl, rfl, rfl, rfl, rfl, rfl, rfl⟩, rfl, ⟨ki, by simpa using kl, ko, ka, fun x hx => kp x (List.mem_cons_of_mem _ hx), kk, kc, km, kkl, by simp only [List.length_cons] at kpl ⊢; omega⟩, hnm, hp12⟩
              · obtain rfl : rest = [] := by
                  cases rest with
                  | nil => rfl
                  | cons up rest2 => have := of_decide_eq_false c6; simp at this
                repeat (first | refine WC.seq ?_ | refine WC.reg ?_ | refine WL.pure rfl rfl rfl ?_ | refine WL.nil ?_ | refine WC.skip ?_ | refine WC.block ?_ | refine WC.condT rfl ?_ | refine WC.condF rfl ?_ | refine WL.off rfl rfl rfl ?_ | refine WL.off0 rfl rfl ?_ | refine WC.exit ?_ | refine blk_hit ?_ | refine blk_miss rfl ?_ | refine WC.ret ?_)
                exact ⟨⟨ix, lw, of0, at0, sk, [], ct, nm⟩, ⟨rfl, rfl, rfl, rfl, rfl, rfl, rfl, rfl, rfl, rfl, rfl, rfl, rfl, rfl⟩, rfl, ⟨ki, kl, ko, ka, fun x hx => (by cases hx), kk, kc, km, kkl, by simp only [List.length_cons, List.length_nil] at kpl ⊢; omega⟩, hnm, hp9⟩
            rintro s3 e9 w9 hsub ⟨hs3, hok, hnm, hp10⟩
            rw [← hs3] at hturn
            refine WC.sub hsub ?_
            clear hsub e9 hs3 hp9 ki kl ko ka kp kk kc km kkl kpl e45 hpc
            obtain ⟨ix, lw, of0, at0, sk, pth, ct, nm⟩ := s3
            obtain ⟨ki, kl, ko, ka, kp, kk, kc, km, kkl, kpl⟩ := hok
            simp only at ki kl ko ka kp kk kc km kkl kpl hnm
            replace hp10 : Hp w w9 (cpL ib lb ob ab ⟨ix, lw, of0, at0, sk, pth, ct, nm⟩ sa sc pa pc) := hp10
            unfold tjDone at hturn
            simp only at hturn
            refine WC.seq ?_
            refine WC.regQ (fun w' => Hp w w' (cpL ib lb ob ab ⟨ix, lw, of0, at0, sk, pth, ct, nm⟩ sa sc pa pc)) mixed (by kernel_rfl) (fun w' hw' => hp10.keep hw') ?_
            repeat (first | refine WQ.pure rfl rfl rfl ?_ | refine WQ.off rfl rfl rfl ?_ | refine WQ.nil ?_)
            refine WQ.ixload rfl (fun _ => rfl) rfl rfl rfl rfl rfl rfl rfl hv rfl rfl (fun w' h => Sl.cell (cE_sl h 1 rfl) (nd kl hv)) ?_
            repeat (first | refine WQ.pure rfl rfl rfl ?_ | refine WQ.off rfl rfl rfl ?_ | refine WQ.nil ?_)
            refine WQ.ixload rfl (fun _ => rfl) rfl rfl rfl rfl rfl rfl rfl hv rfl rfl (fun w' h => Sl.cell (cE_sl h 0 rfl) (nd ki hv)) ?_
            repeat (first | refine WQ.pure rfl rfl rfl ?_ | refine WQ.off rfl rfl rfl ?_ | refine WQ.nil ?_)
            intro w11 hp11
            clear hp10
            refine WC.cond rfl (fun c6 => ?_) (fun c6 => ?_)
            · have c6 : lw.getD v 0 = ix.getD v 0 := Int.ofNat_inj.1 (beq_iff_eq.1 c6)
              rw [if_pos c6] at hturn
              have stn := wrap_succ (i := nm) (n := nm + 1) (by omega) (by omega)
              cases hpop : popM v (nm + 1) sk of0 with
              | none => rw [hpop] at hturn; cases hturn
              | some ko2 =>
              obtain ⟨k2, o2⟩ := ko2
              rw [hpop] at hturn
              simp only [Option.some.injEq] at hturn
              subst hturn
              refine WC.seq ?_
              refine WC.reg ?_
              refine WL.pure rfl rfl rfl ?_
              refine WL.pure rfl rfl rfl ?_
              refine WL.known (d := 155) (congrArg (fun z => some (Value.int .i64 z)) stn) ?_
              repeat (first | refine WC.seq ?_ | refine WC.reg ?_ | refine WL.pure rfl rfl rfl ?_ | refine WL.nil ?_ | refine WC.skip ?_ | refine WC.block ?_ | refine WC.condT rfl ?_ | refine WC.condF rfl ?_ | refine WL.off rfl rfl rfl ?_ | refine WL.off0 rfl rfl ?_ | refine WC.exit ?_ | refine blk_hit ?_ | refine blk_miss rfl ?_ | refine WC.ret ?_)
              refine WC.loop (List Nat × List Nat × Option Addr × Nat) (fun (sk, o, sa, sc) => (13, .int .i64 (v : Nat)) :: cpE (some ⟨ta, to, none⟩) cn N ib lb ob ab root ⟨ix, lw, o, at0, sk, pth, ct, nm + 1⟩ sa sc pa pc)
                (fun (sk, o, sa, sc) w' => popM v (nm + 1) sk o = some (k2, o2) ∧ o.length = N ∧ (∀ x ∈ sk, x < N) ∧ sk.length + f0 ≤ F ∧ Hp w w' (cpL ib lb ob ab ⟨ix, lw, o, at0, sk, pth, ct, nm + 1⟩ sa sc pa pc)) (fun (sk, _) => sk.length) (sk, of0, sa, sc) ⟨rfl, rfl, rfl, rfl, rfl, rfl, rfl, rfl, rfl, rfl, rfl, rfl, rfl, rfl⟩ ⟨hpop, ko, kk, kkl, hp11⟩ ?_
              clear hp11 hpop kk kkl ko
              rintro ⟨sk, o, sa, sc⟩ w12 ⟨hpop, ko, kk, kkl, hp12⟩
              replace hpop : popM v (nm + 1) sk o = some (k2, o2) := hpop
              replace ko : o.length = N := ko
              replace kk : ∀ x ∈ sk, x < N := kk
              replace kkl : sk.length + f0 ≤ F := kkl
              replace hp12 : Hp w w12 (cpL ib lb ob ab ⟨ix, lw, o, at0, sk, pth, ct, nm + 1⟩ sa sc pa pc) := hp12
              repeat (first | refine WC.seq ?_ | refine WC.reg ?_ | refine WL.pure rfl rfl rfl ?_ | refine WL.nil ?_ | refine WC.skip ?_ | refine WC.block ?_ | refine WC.condT rfl ?_ | refine WC.condF rfl ?_ | refine WL.off rfl rfl rfl ?_ | refine WL.off0 rfl rfl ?_ | refine WC.exit ?_ | refine blk_hit ?_ | refine blk_miss rfl ?_ | refine WC.ret ?_)
              refine WL.ixload rfl (fun _ => rfl) rfl rfl rfl rfl rfl rfl rfl hv rfl rfl (cE_sl hp12 2 rfl) (nd ko hv) ?_
              intro q
              repeat (first | refine WC.seq ?_ | refine WC.reg ?_ | refine WL.pure rfl rfl rfl ?_ | refine WL.nil ?_ | refine WC.skip ?_ | refine WC.block ?_ | refine WC.condT rfl ?_ | refine WC.condF rfl ?_ | refine WL.off rfl rfl rfl ?_ | refine WL.off0 rfl rfl ?_ | refine WC.exit ?_ | refine blk_hit ?_ | refine blk_miss rfl ?_ | refine WC.ret ?_)
              refine WC.cond rfl (fun c7 => ?_) (fun c7 => ?_)
              · have d7 : o.getD v 0 = 0 := by simpa using c7
                obtain ⟨x, sk2, rfl⟩ : ∃ x sk2, sk = x :: sk2 := by
                  cases sk with
                  | nil => unfold popM at hpop; rw [if_pos d7] at hpop; cases hpop
                  | cons x sk2 => exact ⟨x, sk2, rfl⟩
                unfold popM at hpop
                rw [if_pos d7] at hpop
                have hxN : x < N := kk x (by simp)
                have hsc := hp12.capR 4 rfl
                have e165 : IntKind.i64.wrap (((x :: sk2).length : Nat) - 1 : Int) = ((sk2.length : Nat) : Int) := by
                  simp only [List.length_cons] at kkl ⊢
                  rw [wrap_mid (by omega) (by omega)]; omega
                repeat (first | refine WC.seq ?_ | refine WC.reg ?_ | refine WL.pure rfl rfl rfl ?_ | refine WL.nil ?_ | refine WC.skip ?_ | refine WC.block ?_ | refine WC.condT rfl ?_ | refine WC.condF rfl ?_ | refine WL.off rfl rfl rfl ?_ | refine WL.off0 rfl rfl ?_ | refine WC.exit ?_ | refine blk_hit ?_ | refine blk_miss rfl ?_ | refine WC.ret ?_)
                refine WL.known (d := 165) (congrArg (fun z => some (Value.int .i64 z)) e165) ?_
                refine WL.ixload (j := sk2.length) rfl (fun _ => rfl) rfl rfl rfl rfl rfl rfl rfl (Nat.lt_succ_self _) rfl rfl (stE_sl hp12 4 rfl) (top_at x sk2) ?_
                intro q
                refine WL.pure rfl rfl rfl ?_
                refine WL.ix1 rfl rfl rfl rfl rfl rfl rfl hxN ?_
                rw [Nat.zero_add]
                refine WL.store rfl rfl rfl rfl rfl rfl (hp12.obj 2 rfl) (cE_room ko hxN) (fun w13 h13 => ?_)
                have hp13 : Hp w w13 (cpL ib lb ob ab ⟨ix, lw, o.set x (nm + 1), at0, x :: sk2, pth, ct, nm + 1⟩ sa sc pa pc) := cE_set hp12 2 rfl rfl h13
                repeat (first | refine WC.seq ?_ | refine WC.reg ?_ | refine WL.pure rfl rfl rfl ?_ | refine WL.nil ?_ | refine WC.skip ?_ | refine WC.block ?_ | refine WC.condT rfl ?_ | refine WC.condF rfl ?_ | refine WL.off rfl rfl rfl ?_ | refine WL.off0 rfl rfl ?_ | refine WC.exit ?_ | refine blk_hit ?_ | refine blk_miss rfl ?_ | refine WC.ret ?_)
                refine WL.known (d := 173) (congrArg (fun z => some (Value.int .i64 z)) e165) ?_
                refine WL.sliceHi (h := sk2.length) rfl rfl rfl rfl rfl rfl (by have : sk2.length + 1 ≤ sc := hsc; omega) ?_
                have hp14 : Hp w w13 (cpL ib lb ob ab ⟨ix, lw, o.set x (nm + 1), at0, sk2, pth, ct, nm + 1⟩ sa sc pa pc) := hp13.rowCut 4 rfl (m := sk2.length) (Nat.le_succ _) (by rw [top_take]; rfl)
                repeat (first | refine WC.seq ?_ | refine WC.reg ?_ | refine WL.pure rfl rfl rfl ?_ | refine WL.nil ?_ | refine WC.skip ?_ | refine WC.block ?_ | refine WC.condT rfl ?_ | refine WC.condF rfl ?_ | refine WL.off rfl rfl rfl ?_ | refine WL.off0 rfl rfl ?_ | refine WC.exit ?_ | refine blk_hit ?_ | refine blk_miss rfl ?_ | refine WC.ret ?_)
                exact ⟨(sk2, o.set x (nm + 1), sa, sc), Nat.lt_succ_self sk2.length, ⟨rfl, rfl, rfl, rfl, rfl, rfl, rfl, rfl, rfl, rfl, rfl, rfl, rfl, rfl⟩, hpop, by simpa using ko, fun y hy => kk y (List.mem_cons_of_mem _ hy), by simp only [List.length_cons] at kkl; omega, hp14⟩
              · have d7 : ¬ o.getD v 0 = 0 := by simpa using c7
                have hpe : (sk, o) = (k2, o2) := by
                  cases sk with
                  | nil => unfold popM at hpop; rw [if_neg d7] at hpop; simpa using hpop
                  | cons x sk2 => unfold popM at hpop; rw [if_neg d7] at hpop; simpa using hpop
                simp only [Prod.mk.injEq] at hpe
                obtain ⟨rfl, rfl⟩ := hpe
                repeat (first | refine WC.seq ?_ | refine WC.reg ?_ | refine WL.pure rfl rfl rfl ?_ | refine WL.nil ?_ | refine WC.skip ?_ | refine WC.block ?_ | refine WC.condT rfl ?_ | refine WC.condF rfl ?_ | refine WL.off rfl rfl rfl ?_ | refine WL.off0 rfl rfl ?_ | refine WC.exit ?_ | refine blk_hit ?_ | refine blk_miss rfl ?_ | refine WC.ret ?_)
                exact ⟨(f0, ⟨ix, lw, o, at0, sk, pth, ct, nm + 1⟩, sa, sc, pa, pc), Nat.lt_succ_self f0, ⟨rfl, rfl, rfl, rfl, rfl, rfl, rfl, rfl, rfl, rfl, rfl, rfl, rfl⟩, hR2, ⟨ki, kl, ko, ka, kp, kk, kc, by show nm + 1 + f0 ≤ F; omega, kkl, kpl⟩, hp12⟩
            · have c6 : ¬ lw.getD v 0 = ix.getD v 0 := fun h => by rw [h] at c6; simp at c6
              rw [if_neg c6] at hturn
              simp only [Option.some.injEq] at hturn
              subst hturn
              repeat (first | refine WC.seq ?_ | refine WC.reg ?_ | refine WL.pure rfl rfl rfl ?_ | refine WL.nil ?_ | refine WC.skip ?_ | refine WC.block ?_ | refine WC.condT rfl ?_ | refine WC.condF rfl ?_ | refine WL.off rfl rfl rfl ?_ | refine WL.off0 rfl rfl ?_ | refine WC.exit ?_ | refine blk_hit ?_ | refine blk_miss rfl ?_ | refine WC.ret ?_)
              exact ⟨(f0, ⟨ix, lw, of0, at0, sk, pth, ct, nm⟩, sa, sc, pa, pc), Nat.lt_succ_self f0, ⟨rfl, rfl, rfl, rfl, rfl, rfl, rfl, rfl, rfl, rfl, rfl, rfl, rfl⟩, hR2, ⟨ki, kl, ko, ka, kp, kk, kc, km, kkl, kpl⟩, hp11⟩
        · have c3 : pth = [] := List.eq_nil_of_length_eq_zero (by have h : ¬ (0 : Int) < ((pth.length : Nat) : Int) := of_decide_eq_false c3; omega)
          subst c3
          rw [tjRun_nil rfl] at hR
          simp only [Option.some.injEq, Prod.mk.injEq] at hR
          obtain ⟨rfl, rfl⟩ := hR
          repeat (first | refine WC.seq ?_ | refine WC.reg ?_ | refine WL.pure rfl rfl rfl ?_ | refine WL.nil ?_ | refine WC.skip ?_ | refine WC.block ?_ | refine WC.condT rfl ?_ | refine WC.condF rfl ?_ | refine WL.off rfl rfl rfl ?_ | refine WL.off0 rfl rfl ?_ | refine WC.exit ?_ | refine blk_hit ?_ | refine blk_miss rfl ?_ | refine WC.ret ?_)
          exact ⟨(f, ⟨ix, lw, of0, at0, sk, [], ct, nm⟩, sa, sc, pa, pc), ⟨rfl, rfl, rfl, rfl, rfl, rfl, rfl, rfl, rfl, rfl, rfl, rfl, rfl⟩, hC, rfl, hok, hp6⟩
    rintro ⟨f, s, sa, sc, pa, pc⟩ e4 w4 hsub ⟨hC, hpn, hok, hp4⟩
    refine WC.sub hsub ?_
    repeat (first | refine WC.seq ?_ | refine WC.reg ?_ | refine WL.pure rfl rfl rfl ?_ | refine WL.nil ?_ | refine WC.skip ?_ | refine WC.block ?_ | refine WC.condT rfl ?_ | refine WC.condF rfl ?_ | refine WL.off rfl rfl rfl ?_ | refine WL.off0 rfl rfl ?_ | refine WC.exit ?_ | refine blk_hit ?_ | refine blk_miss rfl ?_ | refine WC.ret ?_)
    exact ⟨(root + 1, f, s, sa, sc, pa, pc), (by show N - (root + 1) < N - root; omega), ⟨rfl, rfl, rfl, rfl, rfl, rfl, rfl, rfl, rfl, rfl, rfl, congrArg (fun z => some (Value.int .i64 z)) step, rfl⟩, hr, hC, hpn, hok, hp4⟩
  · have hr : root = N := by have := of_decide_eq_false c1; omega
    subst hr
    rw [Nat.sub_self] at hC
    unfold compRoots at hC
    simp only [Option.some.injEq] at hC
    subst hC
    subst hsF
    repeat (first | refine WC.seq ?_ | refine WC.reg ?_ | refine WL.pure rfl rfl rfl ?_ | refine WL.nil ?_ | refine WC.skip ?_ | refine WC.block ?_ | refine WC.condT rfl ?_ | refine WC.condF rfl ?_ | refine WL.off rfl rfl rfl ?_ | refine WL.off0 rfl rfl ?_ | refine WC.exit ?_ | refine blk_hit ?_ | refine blk_miss rfl ?_ | refine WC.ret ?_)
    exact Res.one rfl rfl rfl ⟨ob, rfl, hok.o, hp3.pick [2] (by decide)⟩
end Go.Proofs.YtpbbneclkhfgoaaDoor
end
section
/- ltl, twenty-fourth: way. -/
namespace Go.W
open Go.RowKit
theorem Hp.rowSome {w0 w : World} {L : List Ent} {E s n c : Nat} {a : Option Addr} {xs : List Value} (h : Hp w0 w L) (i : Nat) (hi : nth L i = some (.row E s (.slice a n c) n xs)) (hn : 0 < n) : ∃ b, a = some ⟨b, 0, none⟩ := by
  obtain ⟨_, ⟨_, h0⟩ | ⟨b, _, _, hv, _⟩⟩ := h.at i hi
  · omega
  · simp only [Value.slice.injEq] at hv
    exact ⟨b, hv.1⟩
end Go.W
namespace Go.Ltl
open Go.W
/-- What is known of who was before whom, and of the states still to look at. -/
structure BefOk (N : Nat) (B : Bef) (q : List Nat) : Prop where
  nd : (B.map (·.1)).Nodup
  key : ∀ p ∈ B, p.1 < N
  qb : ∀ x ∈ q, x < N
  len : q.length ≤ B.length
theorem lkB_none {B : Bef} {u : Nat} (h : lkB B u = none) : u ∉ B.map (·.1) := by
  induction B with
  | nil => simp
  | cons p r ih =>
    unfold lkB at h
    split at h
    · cases h
    · rename_i hk
      simp only [List.map_cons, List.mem_cons, not_or]
      exact ⟨hk, ih h⟩
theorem BefOk.small {N : Nat} {B : Bef} {q : List Nat} (h : BefOk N B q) : q.length ≤ N := by
  have h1 := h.nd.length_le_of_subset (l₂ := List.range N) (fun x hx => by
    obtain ⟨p, hp, rfl⟩ := List.mem_map.1 hx
    exact List.mem_range.2 (h.key p hp))
  rw [List.length_map, List.length_range] at h1
  exact Nat.le_trans h.len h1
theorem BefOk.add {N : Nat} {B : Bef} {q : List Nat} (h : BefOk N B q) {u : Nat} {par : Int} (hu : u < N) (hn : lkB B u = none) : BefOk N (B ++ [(u, par)]) (q ++ [u]) := by
  refine ⟨?_, ?_, ?_, by simp [h.len]⟩
  · rw [List.map_append, List.nodup_append]
    refine ⟨h.nd, by simp, ?_⟩
    intro a ha b hb e
    simp only [List.map_cons, List.map_nil, List.mem_singleton] at hb
    subst hb
    subst e
    exact lkB_none hn ha
  · intro p hp
    rcases List.mem_append.1 hp with hp | hp
    · exact h.key p hp
    · rw [List.mem_singleton.1 hp]; exact hu
  · intro x hx
    rcases List.mem_append.1 hx with hx | hx
    · exact h.qb x hx
    · rw [List.mem_singleton.1 hx]; exact hu
theorem BefOk.tail {N : Nat} {B : Bef} {v : Nat} {q : List Nat} (h : BefOk N B (v :: q)) : BefOk N B q := ⟨h.nd, h.key, fun x hx => h.qb x (List.mem_cons_of_mem _ hx), by have := h.len; simp only [List.length_cons] at this; omega⟩
theorem addM_no {may : Nat → Bool} {par : Int} {B : Bef} {q : List Nat} {u : Nat} (h : ¬ ((lkB B u).isNone && may u) = true) : addM may par (B, q) u = (B, q) := by unfold addM; rw [if_neg h]
theorem addM_yes {may : Nat → Bool} {par : Int} {B : Bef} {q : List Nat} {u : Nat} (h : ((lkB B u).isNone && may u) = true) : addM may par (B, q) u = (B ++ [(u, par)], q ++ [u]) := by unfold addM; rw [if_pos h]
theorem backM_ne {B : Bef} : ∀ (f v : Nat) (out l : List Nat), out ≠ [] → backM B f v out = some l → l ≠ [] := by
  intro f
  induction f with
  | zero =>
    intro v out l h1 h
    unfold backM at h
    split at h
    · cases h
    · simp only [Option.some.injEq] at h; rw [← h]; exact h1
  | succ f ih =>
    intro v out l h1 h
    unfold backM at h
    split at h
    · exact ih _ _ _ (List.cons_ne_nil _ _) h
    · simp only [Option.some.injEq] at h; rw [← h]; exact h1
theorem backM_go {B : Bef} {f v : Nat} {out l : List Nat} (h : backM B f v out = some l) (hx : 0 ≤ (lkB B v).getD 0) : ∃ f0, f = f0 + 1 ∧ backM B f0 ((lkB B v).getD 0).toNat (((lkB B v).getD 0).toNat :: out) = some l := by
  cases f with
  | zero => unfold backM at h; rw [if_pos hx] at h; cases h
  | succ f => unfold backM at h; rw [if_pos hx] at h; exact ⟨f, rfl, h⟩
theorem backM_end {B : Bef} {f v : Nat} {out l : List Nat} (h : backM B f v out = some l) (hx : ¬ 0 ≤ (lkB B v).getD 0) : out = l := by
  cases f with
  | zero => unfold backM at h; rw [if_neg hx] at h; simpa using h
  | succ f => unfold backM at h; rw [if_neg hx] at h; simpa using h
end Go.Ltl
namespace Go.Proofs.YtpbbneclkhfgoaaDoor
open Go.W Go.Ltl Go.RowKit
set_option maxRecDepth 100000
attribute [local irreducible] WC WL WQ WS WH

def bV (B : Bef) : List (Int × Value) := B.map fun p => ((p.1 : Int), Value.int .i64 p.2)
theorem lkB_get (B : Bef) (k : Nat) : lkB B k = kGet B k := by
  induction B with
  | nil => rfl
  | cons p r ih => unfold lkB kGet; rw [ih]
theorem bV_get (B : Bef) (k : Nat) : kGet (bV B) (k : Int) = (lkB B k).map (Value.int .i64) := by
  rw [lkB_get]
  exact kGet_map (fun (n : Nat) => (n : Int)) (Value.int .i64) (fun a b h => Int.ofNat_inj.1 h) B k
theorem bV_put {B : Bef} {k : Nat} (x : Int) (h : lkB B k = none) : kPut (bV B) (k : Int) (Value.int .i64 x) = bV (B ++ [(k, x)]) := by
  rw [kPut_none _ _ _ (by rw [bV_get, h]; rfl)]
  simp [bV]
abbrev mE (mb : Nat) (B : Bef) : Ent := .blk mb (mapO iKey (bV B))
section
variable {P : Program} [T : TT P] {ro : Option Nat} {n : Nat} {l0 rest : List Oper} {N : Nor} {Z : Pan} {e : Env} {w : World} {ty : TypeId} {pos : String} {aft : Array Edge} {g : Option (Nat × Bool)}
/-- append of a number to a queue of numbers. -/
theorem WL.appN {d : Nat} {s y : Operand} {t : TypeId} {i : TI} {z : Value} {s0 b0 : Nat} {w0 : World} {A Q : List Ent} {qa : Option Addr} {qc u : Nat} {q : List Nat} {a : Addr} {c : Nat}
    (hg : grd l0 e g = some true) (hd : Nat.blt d n = true) (ht : T.ti t = some ⟨.slice 3, z, s0, b0⟩) (hi : T.ti 3 = some i) (hzs : i.zero.cells.size = 1) (hsz : i.size = 1)
    (hsv : opv e s = some (.slice qa q.length qc)) (hyv : opv e y = some (.slice (some a) 1 c)) (hp : Hp w0 w (A ++ Q)) (hq : Quo 3 (.slice qa q.length qc) (natL q) Q) (hx : w.cell? a = some (.int .i64 (u : Nat))) (hn : q.length ≤ 1000000000) (hb : i.bytes ≤ 16)
    (h : ∀ qa' qc' w' Q', Hp w0 w' (A ++ Q') → Quo 3 (.slice qa' (q ++ [u]).length qc') (natL (q ++ [u])) Q' → Go.W.WL P ro n l0 N Z rest ((d, .slice qa' (q ++ [u]).length qc') :: e) w') :
    Go.W.WL P ro n l0 N Z (⟨some d, .call ⟨.builtin .append, #[s, y], #[t, t]⟩, ty, pos, aft, g⟩ :: rest) e w := by
  refine Go.W.WL.appQ hg hd ht hi hzs hsz hsv hyv hp hq hx rfl (by rw [natL_len]; exact hn) hb ?_
  intro v' w' Q' hp' hq'
  rw [show natL q ++ [Value.int .i64 (u : Nat)] = natL (q ++ [u]) from by simp [natL]] at hq'
  obtain ⟨a', c', rfl, _⟩ := hq'.shape
  rw [natL_len] at hq' ⊢
  exact h a' c' w' Q' hp' hq'
end
/-- What a way is answered by. -/
def WayR (r : Option (List Nat)) (w : World) (u : Value) (w' : World) : Prop := match r with
  | none => u = .slice none 0 0 ∧ Hp w w' []
  | some l => l ≠ [] ∧ ∃ b c, u = .slice (some ⟨b, 0, none⟩) l.length c ∧ Hp w w' [Rna (.slice (some ⟨b, 0, none⟩) l.length c) l.length l]
abbrev wyE (an : Option Addr) (cn N : Nat) (mf : FuncId) (mc : List Value) (ff : FuncId) (fc : List Value) (mb : Nat) (q : List Nat) (qa : Option Addr) (qc : Nat) : Env :=
  [(0, .slice an N cn), (2, .func (.func mf) #[] mc.toArray), (3, .func (.func ff) #[] fc.toArray), (9, .map (some mb)), (10, .slice qa q.length qc)]

theorem way_any (an : Option Addr) (cn N : Nat) (rs : Nrs) (w : World) (hN : rs.length = N) (hT : Tbl w an rs) (hn : N ≤ 65536) (hrow : ∀ x ∈ rs, x.2.2.length ≤ 1048576) (hin : ∀ x ∈ rs, ∀ u ∈ x.2.2, u < N)
    (fa : Option Addr) (fcap : Nat) (start : List Nat) (hS : Sl w fa (natL start)) (hsl : start.length ≤ 1048576) (hst : ∀ u ∈ start, u < N)
    (mf : FuncId) (mc : List Value) (may : Nat → Bool) (hmE : Ents Tryd.prog mf) (hmay : ∀ (v : Nat) w', v < N → Hp w w' [] → Ret Tryd.prog mf (.int .i64 (v : Nat) :: mc) w' fun u w'' => u = .bool (may v) ∧ Hp w' w'' [])
    (ff : FuncId) (fc : List Value) (fits : Nat → Bool) (hfE : Ents Tryd.prog ff) (hfits : ∀ (v : Nat) w', v < N → Hp w w' [] → Ret Tryd.prog ff (.int .i64 (v : Nat) :: fc) w' fun u w'' => u = .bool (fits v) ∧ Hp w' w'' [])
    (F : Nat) (hF : F ≤ 1099511627776) (r : Option (List Nat)) (hM : wayM F (rsN rs) start may fits = some r) :
    Ret Tryd.prog 90 [.slice an N cn, .slice fa start.length fcap, .func (.func mf) #[] mc.toArray, .func (.func ff) #[] fc.toArray] w fun u w' => WayR r w u w' := by
  refine enter Tryd.func90 rfl rfl ⟨rfl, rfl⟩ rfl ?_
  repeat (first | refine WC.seq ?_ | refine WC.reg ?_ | refine WL.pure rfl rfl rfl ?_ | refine WL.nil ?_ | refine WC.skip ?_ | refine WC.block ?_ | refine WC.condT rfl ?_ | refine WC.condF rfl ?_ | refine WL.off rfl rfl rfl ?_ | refine WL.off0 rfl rfl ?_ | refine WC.exit ?_ | refine blk_hit ?_ | refine blk_miss rfl ?_ | refine WC.ret ?_)
  refine WL.makeMap rfl rfl ?_
  intro mb w1 h1
  have hp1 : Hp w w1 ([mE mb []] ++ []) := (Hp.start w).new h1
  repeat (first | refine WC.seq ?_ | refine WC.reg ?_ | refine WL.pure rfl rfl rfl ?_ | refine WL.nil ?_ | refine WC.skip ?_ | refine WC.block ?_ | refine WC.condT rfl ?_ | refine WC.condF rfl ?_ | refine WL.off rfl rfl rfl ?_ | refine WL.off0 rfl rfl ?_ | refine WC.exit ?_ | refine blk_hit ?_ | refine blk_miss rfl ?_ | refine WC.ret ?_)
  refine WC.loop (Nat × Bef × List Nat × Option Addr × Nat × List Ent) (fun (i, B, q, qa, qc, Q) => [(22, .slice fa start.length fcap), (23, .int .i64 (start.length : Nat)), (24, .int .i64 (i : Nat))] ++ wyE an cn N mf mc ff fc mb q qa qc)
    (fun (i, B, q, qa, qc, Q) w' => i ≤ start.length ∧ (start.take i).foldl (addM may (-1)) ([], []) = (B, q) ∧ BefOk N B q ∧ Quo 3 (.slice qa q.length qc) (natL q) Q ∧ Hp w w' ([mE mb B] ++ Q)) (fun (i, _) => start.length - i) (0, [], [], none, 0, []) ⟨rfl, rfl, rfl, rfl, rfl, rfl, rfl, rfl, rfl⟩
    ⟨Nat.zero_le _, rfl, ⟨List.nodup_nil, fun p h => (by cases h), fun p h => (by cases h), Nat.le_refl _⟩, Quo.nil _, hp1⟩ ?_
  clear hp1
  rintro ⟨i, B, q, qa, qc, Q⟩ w2 ⟨hi, hB, hok, hQ, hp2⟩
  replace hi : i ≤ start.length := hi
  replace hB : (start.take i).foldl (addM may (-1)) ([], []) = (B, q) := hB
  replace hok : BefOk N B q := hok
  replace hQ : Quo 3 (.slice qa q.length qc) (natL q) Q := hQ
  replace hp2 : Hp w w2 ([mE mb B] ++ Q) := hp2
  have hqs := hok.small
  repeat (first | refine WC.seq ?_ | refine WC.reg ?_ | refine WL.pure rfl rfl rfl ?_ | refine WL.nil ?_ | refine WC.skip ?_ | refine WC.block ?_ | refine WC.condT rfl ?_ | refine WC.condF rfl ?_ | refine WL.off rfl rfl rfl ?_ | refine WL.off0 rfl rfl ?_ | refine WC.exit ?_ | refine blk_hit ?_ | refine blk_miss rfl ?_ | refine WC.ret ?_)
  refine WC.cond rfl (fun c1 => ?_) (fun c1 => ?_)
  · have hi : i < start.length := by have := of_decide_eq_true c1; omega
    have step := wrap_succ (i := i) (n := i + 1) (by omega) (by omega)
    obtain ⟨u, hu⟩ : ∃ u, u = start[i] := ⟨_, rfl⟩
    have huN : u < N := by rw [hu]; exact hst _ (List.getElem_mem hi)
    have hB' : (start.take (i + 1)).foldl (addM may (-1)) ([], []) = addM may (-1) (B, q) u := by rw [List.take_succ_eq_append_getElem hi, List.foldl_append, hB, ← hu]; rfl
    repeat (first | refine WC.seq ?_ | refine WC.reg ?_ | refine WL.pure rfl rfl rfl ?_ | refine WL.nil ?_ | refine WC.skip ?_ | refine WC.block ?_ | refine WC.condT rfl ?_ | refine WC.condF rfl ?_ | refine WL.off rfl rfl rfl ?_ | refine WL.off0 rfl rfl ?_ | refine WC.exit ?_ | refine blk_hit ?_ | refine blk_miss rfl ?_ | refine WC.ret ?_)
    refine WL.ixload rfl (fun _ => rfl) rfl rfl rfl rfl rfl rfl rfl hi rfl rfl (hS.hp hp2) (natL_at hi) ?_
    intro q0
    rw [← hu]
    repeat (first | refine WC.seq ?_ | refine WC.reg ?_ | refine WL.pure rfl rfl rfl ?_ | refine WL.nil ?_ | refine WC.skip ?_ | refine WC.block ?_ | refine WC.condT rfl ?_ | refine WC.condF rfl ?_ | refine WL.off rfl rfl rfl ?_ | refine WL.off0 rfl rfl ?_ | refine WC.exit ?_ | refine blk_hit ?_ | refine blk_miss rfl ?_ | refine WC.ret ?_)
    refine WL.val rfl rfl rfl (yLookM (k := ((u : Nat) : Int)) (l := bV B) (keyT_int rfl) rfl rfl rfl rfl (hp2.obj 0 rfl)) ?_
    unfold lkM
    rw [bV_get]
    cases hq : lkB B u with
    | none =>
      repeat (first | refine WC.seq ?_ | refine WC.reg ?_ | refine WL.pure rfl rfl rfl ?_ | refine WL.nil ?_ | refine WC.skip ?_ | refine WC.block ?_ | refine WC.condT rfl ?_ | refine WC.condF rfl ?_ | refine WL.off rfl rfl rfl ?_ | refine WL.off0 rfl rfl ?_ | refine WC.exit ?_ | refine blk_hit ?_ | refine blk_miss rfl ?_ | refine WC.ret ?_)
      refine WL.call rfl rfl rfl rfl rfl hmE (hmay u w2 huN hp2.nil') ?_
      rintro _ w3 ⟨rfl, hp3⟩
      replace hp3 := hp2.call hp3.below
      repeat (first | refine WC.seq ?_ | refine WC.reg ?_ | refine WL.pure rfl rfl rfl ?_ | refine WL.nil ?_ | refine WC.skip ?_ | refine WC.block ?_ | refine WC.condT rfl ?_ | refine WC.condF rfl ?_ | refine WL.off rfl rfl rfl ?_ | refine WL.off0 rfl rfl ?_ | refine WC.exit ?_ | refine blk_hit ?_ | refine blk_miss rfl ?_ | refine WC.ret ?_)
      refine WC.cond rfl (fun c2 => ?_) (fun c2 => ?_)
      · rw [addM_yes (by rw [hq, c2]; rfl)] at hB'
        repeat (first | refine WC.seq ?_ | refine WC.reg ?_ | refine WL.pure rfl rfl rfl ?_ | refine WL.nil ?_ | refine WC.skip ?_ | refine WC.block ?_ | refine WC.condT rfl ?_ | refine WC.condF rfl ?_ | refine WL.off rfl rfl rfl ?_ | refine WL.off0 rfl rfl ?_ | refine WC.exit ?_ | refine blk_hit ?_ | refine blk_miss rfl ?_ | refine WC.ret ?_)
        refine WL.skip rfl rfl (yMapSet (k := ((u : Nat) : Int)) (l := bV B) (v := .int .i64 (-1)) (keyT_int rfl) rfl rfl rfl rfl (hp3.obj 0 rfl)) ?_
        have hp4 := hp3.set 0 rfl rfl (setB_put (hp3.obj 0 rfl) (o' := mapO iKey (kPut (bV B) ((u : Nat) : Int) (.int .i64 (-1)))))
        generalize (w3.putObj mb (mapO iKey (kPut (bV B) ((u : Nat) : Int) (.int .i64 (-1))))) = w4 at *
        rw [bV_put (-1) hq] at hp4
        repeat (first | refine WC.seq ?_ | refine WC.reg ?_ | refine WL.pure rfl rfl rfl ?_ | refine WL.nil ?_ | refine WC.skip ?_ | refine WC.block ?_ | refine WC.condT rfl ?_ | refine WC.condF rfl ?_ | refine WL.off rfl rfl rfl ?_ | refine WL.off0 rfl rfl ?_ | refine WC.exit ?_ | refine blk_hit ?_ | refine blk_miss rfl ?_ | refine WC.ret ?_)
        refine WL.buildS (cs := [.int .i64 (u : Nat)]) rfl rfl rfl rfl rfl rfl rfl rfl rfl (fun b5 w5 h5 => ?_)
        have hp5 := hp4.new h5
        refine WL.appN (A := [_, _]) rfl rfl rfl rfl rfl rfl rfl rfl hp5 hQ (cell_of_obj (hp5.obj 0 rfl) rfl) (by omega) (by decide) ?_
        intro qa2 qc2 w6 Q2 hp6 hQ2
        repeat (first | refine WC.seq ?_ | refine WC.reg ?_ | refine WL.pure rfl rfl rfl ?_ | refine WL.nil ?_ | refine WC.skip ?_ | refine WC.block ?_ | refine WC.condT rfl ?_ | refine WC.condF rfl ?_ | refine WL.off rfl rfl rfl ?_ | refine WL.off0 rfl rfl ?_ | refine WC.exit ?_ | refine blk_hit ?_ | refine blk_miss rfl ?_ | refine WC.ret ?_)
        exact ⟨(i + 1, B ++ [(u, -1)], q ++ [u], qa2, qc2, Q2), (by show start.length - (i + 1) < start.length - i; omega), ⟨rfl, rfl, congrArg (fun z => some (Value.int .i64 z)) step, rfl, rfl, rfl, rfl, rfl, rfl⟩, hi, hB', hok.add huN hq, hQ2, hp6.tail⟩
      · rw [addM_no (by rw [hq, c2]; decide)] at hB'
        repeat (first | refine WC.seq ?_ | refine WC.reg ?_ | refine WL.pure rfl rfl rfl ?_ | refine WL.nil ?_ | refine WC.skip ?_ | refine WC.block ?_ | refine WC.condT rfl ?_ | refine WC.condF rfl ?_ | refine WL.off rfl rfl rfl ?_ | refine WL.off0 rfl rfl ?_ | refine WC.exit ?_ | refine blk_hit ?_ | refine blk_miss rfl ?_ | refine WC.ret ?_)
        exact ⟨(i + 1, B, q, qa, qc, Q), (by show start.length - (i + 1) < start.length - i; omega), ⟨rfl, rfl, congrArg (fun z => some (Value.int .i64 z)) step, rfl, rfl, rfl, rfl, rfl, rfl⟩, hi, hB', hok, hQ, hp3⟩
    | some x =>
      rw [addM_no (by rw [hq]; simp)] at hB'
      repeat (first | refine WC.seq ?_ | refine WC.reg ?_ | refine WL.pure rfl rfl rfl ?_ | refine WL.nil ?_ | refine WC.skip ?_ | refine WC.block ?_ | refine WC.condT rfl ?_ | refine WC.condF rfl ?_ | refine WL.off rfl rfl rfl ?_ | refine WL.off0 rfl rfl ?_ | refine WC.exit ?_ | refine blk_hit ?_ | refine blk_miss rfl ?_ | refine WC.ret ?_)
      exact ⟨(i + 1, B, q, qa, qc, Q), (by show start.length - (i + 1) < start.length - i; omega), ⟨rfl, rfl, congrArg (fun z => some (Value.int .i64 z)) step, rfl, rfl, rfl, rfl, rfl, rfl⟩, hi, hB', hok, hQ, hp2⟩
  · have hi : i = start.length := by have := of_decide_eq_false c1; omega
    subst hi
    rw [List.take_length] at hB
    unfold wayM at hM
    rw [hB] at hM
    obtain ⟨FB, hFB⟩ : ∃ FB, FB = F := ⟨_, rfl⟩
    have hFb : FB ≤ 1099511627776 := by omega
    replace hM : wayGo FB (rsN rs) may fits F (B, q) = some r := by rw [hFB]; exact hM
    clear hFB hB
    repeat (first | refine WC.seq ?_ | refine WC.reg ?_ | refine WL.pure rfl rfl rfl ?_ | refine WL.nil ?_ | refine WC.skip ?_ | refine WC.block ?_ | refine WC.condT rfl ?_ | refine WC.condF rfl ?_ | refine WL.off rfl rfl rfl ?_ | refine WL.off0 rfl rfl ?_ | refine WC.exit ?_ | refine blk_hit ?_ | refine blk_miss rfl ?_ | refine WC.ret ?_)
    refine WC.loop (Nat × Bef × List Nat × Option Addr × Nat × List Ent) (fun (f, B, q, qa, qc, Q) => wyE an cn N mf mc ff fc mb q qa qc)
      (fun (f, B, q, qa, qc, Q) w' => wayGo FB (rsN rs) may fits f (B, q) = some r ∧ BefOk N B q ∧ Quo 3 (.slice qa q.length qc) (natL q) Q ∧ Hp w w' ([mE mb B] ++ Q)) (fun (f, _) => f) (F, B, q, qa, qc, Q) ⟨rfl, rfl, rfl, rfl, rfl, rfl⟩ ⟨hM, hok, hQ, hp2⟩ ?_
    clear hM hok hQ hp2 hqs
    rintro ⟨f, B, q, qa, qc, Q⟩ w2 ⟨hM, hok, hQ, hp2⟩
    replace hM : wayGo FB (rsN rs) may fits f (B, q) = some r := hM
    replace hok : BefOk N B q := hok
    replace hQ : Quo 3 (.slice qa q.length qc) (natL q) Q := hQ
    replace hp2 : Hp w w2 ([mE mb B] ++ Q) := hp2
    have hqs := hok.small
    repeat (first | refine WC.seq ?_ | refine WC.reg ?_ | refine WL.pure rfl rfl rfl ?_ | refine WL.nil ?_ | refine WC.skip ?_ | refine WC.block ?_ | refine WC.condT rfl ?_ | refine WC.condF rfl ?_ | refine WL.off rfl rfl rfl ?_ | refine WL.off0 rfl rfl ?_ | refine WC.exit ?_ | refine blk_hit ?_ | refine blk_miss rfl ?_ | refine WC.ret ?_)
    refine WC.cond rfl (fun c2 => ?_) (fun c2 => ?_)
    · have c2 : 0 < q.length := by have h : (0 : Int) < ((q.length : Nat) : Int) := of_decide_eq_true c2; omega
      obtain ⟨v, q, rfl⟩ : ∃ v q2, q = v :: q2 := by
        cases q with
        | nil => exact absurd c2 (Nat.lt_irrefl _)
        | cons v q2 => exact ⟨v, q2, rfl⟩
      have hv : v < N := hok.qb v (by simp)
      obtain ⟨f0, rfl⟩ : ∃ f0, f = f0 + 1 := by
        cases f with
        | zero => unfold wayGo at hM; cases hM
        | succ f0 => exact ⟨f0, rfl⟩
      unfold wayGo at hM
      repeat (first | refine WC.seq ?_ | refine WC.reg ?_ | refine WL.pure rfl rfl rfl ?_ | refine WL.nil ?_ | refine WC.skip ?_ | refine WC.block ?_ | refine WC.condT rfl ?_ | refine WC.condF rfl ?_ | refine WL.off rfl rfl rfl ?_ | refine WL.off0 rfl rfl ?_ | refine WC.exit ?_ | refine blk_hit ?_ | refine blk_miss rfl ?_ | refine WC.ret ?_)
      refine WL.ixload (j := 0) rfl (fun _ => rfl) rfl rfl rfl rfl rfl rfl rfl (Nat.succ_pos _) rfl rfl (hQ.sl hp2) (v := .int .i64 (v : Nat)) rfl ?_
      intro q0
      repeat (first | refine WC.seq ?_ | refine WC.reg ?_ | refine WL.pure rfl rfl rfl ?_ | refine WL.nil ?_ | refine WC.skip ?_ | refine WC.block ?_ | refine WC.condT rfl ?_ | refine WC.condF rfl ?_ | refine WL.off rfl rfl rfl ?_ | refine WL.off0 rfl rfl ?_ | refine WC.exit ?_ | refine blk_hit ?_ | refine blk_miss rfl ?_ | refine WC.ret ?_)
      refine WL.tailQ (x := .int .i64 (v : Nat)) (xs := natL q) rfl rfl rfl rfl rfl rfl rfl hQ ?_
      intro v' hQ'
      obtain ⟨qa2, qc2, rfl, _⟩ := hQ'.shape
      rw [natL_len] at hQ' ⊢
      clear hQ
      repeat (first | refine WC.seq ?_ | refine WC.reg ?_ | refine WL.pure rfl rfl rfl ?_ | refine WL.nil ?_ | refine WC.skip ?_ | refine WC.block ?_ | refine WC.condT rfl ?_ | refine WC.condF rfl ?_ | refine WL.off rfl rfl rfl ?_ | refine WL.off0 rfl rfl ?_ | refine WC.exit ?_ | refine blk_hit ?_ | refine blk_miss rfl ?_ | refine WC.ret ?_)
      refine WL.call rfl rfl rfl rfl rfl hfE (hfits v w2 hv hp2.nil') ?_
      rintro _ w3 ⟨rfl, hp3⟩
      replace hp3 := hp2.call hp3.below
      clear hp2
      repeat (first | refine WC.seq ?_ | refine WC.reg ?_ | refine WL.pure rfl rfl rfl ?_ | refine WL.nil ?_ | refine WC.skip ?_ | refine WC.block ?_ | refine WC.condT rfl ?_ | refine WC.condF rfl ?_ | refine WL.off rfl rfl rfl ?_ | refine WL.off0 rfl rfl ?_ | refine WC.exit ?_ | refine blk_hit ?_ | refine blk_miss rfl ?_ | refine WC.ret ?_)
      refine WC.cond rfl (fun c3 => ?_) (fun c3 => ?_)
      · rw [if_pos c3] at hM
        obtain ⟨l, hbk, hrl⟩ := Option.map_eq_some_iff.1 hM
        subst hrl
        have hne := backM_ne _ _ _ _ (List.cons_ne_nil _ _) hbk
        repeat (first | refine WC.seq ?_ | refine WC.reg ?_ | refine WL.pure rfl rfl rfl ?_ | refine WL.nil ?_ | refine WC.skip ?_ | refine WC.block ?_ | refine WC.condT rfl ?_ | refine WC.condF rfl ?_ | refine WL.off rfl rfl rfl ?_ | refine WL.off0 rfl rfl ?_ | refine WC.exit ?_ | refine blk_hit ?_ | refine blk_miss rfl ?_ | refine WC.ret ?_)
        refine WL.buildS (cs := [.int .i64 (v : Nat)]) rfl rfl rfl rfl rfl rfl rfl rfl rfl (fun b5 w5 h5 => ?_)
        have hp5 : Hp w w5 (Rna (.slice (some ⟨b5, 0, none⟩) [v].length 1) [v].length [v] :: [mE mb B] ++ Q) := Hp.toRow (s := 1) (m := 1) (hp3.new h5) rfl (by unfold maxLen; decide)
        repeat (first | refine WC.seq ?_ | refine WC.reg ?_ | refine WL.pure rfl rfl rfl ?_ | refine WL.nil ?_ | refine WC.skip ?_ | refine WC.block ?_ | refine WC.condT rfl ?_ | refine WC.condF rfl ?_ | refine WL.off rfl rfl rfl ?_ | refine WL.off0 rfl rfl ?_ | refine WC.exit ?_ | refine blk_hit ?_ | refine blk_miss rfl ?_ | refine WC.ret ?_)
        refine WC.loop (Nat × Nat × List Nat × Option Addr × Nat) (fun (g, v, out, oa, oc) => [(9, .map (some mb)), (15, .int .i64 (v : Nat)), (16, .slice oa out.length oc)])
          (fun (g, v, out, oa, oc) w' => backM B g v out = some l ∧ out.length + g = 1 + FB ∧ Hp w w' (Rna (.slice oa out.length oc) out.length out :: [mE mb B] ++ Q)) (fun (g, _) => g) (FB, v, [v], some ⟨b5, 0, none⟩, 1) ⟨rfl, rfl, rfl, rfl⟩ ⟨hbk, rfl, hp5⟩ ?_
        clear hbk hp5
        rintro ⟨g, v, out, oa, oc⟩ w6 ⟨hbk, hgl, hp6⟩
        replace hbk : backM B g v out = some l := hbk
        replace hgl : out.length + g = 1 + FB := hgl
        replace hp6 : Hp w w6 (Rna (.slice oa out.length oc) out.length out :: [mE mb B] ++ Q) := hp6
        have hlk : (kGet (bV B) ((v : Nat) : Int)).getD (Value.int .i64 0) = Value.int .i64 ((lkB B v).getD 0) := by rw [bV_get]; cases lkB B v <;> rfl
        repeat (first | refine WC.seq ?_ | refine WC.reg ?_ | refine WL.pure rfl rfl rfl ?_ | refine WL.nil ?_ | refine WC.skip ?_ | refine WC.block ?_ | refine WC.condT rfl ?_ | refine WC.condF rfl ?_ | refine WL.off rfl rfl rfl ?_ | refine WL.off0 rfl rfl ?_ | refine WC.exit ?_ | refine blk_hit ?_ | refine blk_miss rfl ?_ | refine WC.ret ?_)
        refine WL.val rfl rfl rfl (yLookM (k := ((v : Nat) : Int)) (l := bV B) (keyT_int rfl) rfl rfl rfl rfl (hp6.obj 1 rfl)) ?_
        rw [show lkM (bV B) ((v : Nat) : Int) ti3.zero false = Value.int .i64 ((lkB B v).getD 0) from hlk]
        repeat (first | refine WC.seq ?_ | refine WC.reg ?_ | refine WL.pure rfl rfl rfl ?_ | refine WL.nil ?_ | refine WC.skip ?_ | refine WC.block ?_ | refine WC.condT rfl ?_ | refine WC.condF rfl ?_ | refine WL.off rfl rfl rfl ?_ | refine WL.off0 rfl rfl ?_ | refine WC.exit ?_ | refine blk_hit ?_ | refine blk_miss rfl ?_ | refine WC.ret ?_)
        refine WC.cond rfl (fun c4 => ?_) (fun c4 => ?_)
        · have c4 : 0 ≤ (lkB B v).getD 0 := of_decide_eq_true c4
          obtain ⟨g0, rfl, hbk2⟩ := backM_go hbk c4
          obtain ⟨u, hu⟩ : ∃ u : Nat, u = ((lkB B v).getD 0).toNat := ⟨_, rfl⟩
          have hu2 : (lkB B v).getD 0 = ((u : Nat) : Int) := by omega
          rw [← hu] at hbk2
          repeat (first | refine WC.seq ?_ | refine WC.reg ?_ | refine WL.pure rfl rfl rfl ?_ | refine WL.nil ?_ | refine WC.skip ?_ | refine WC.block ?_ | refine WC.condT rfl ?_ | refine WC.condF rfl ?_ | refine WL.off rfl rfl rfl ?_ | refine WL.off0 rfl rfl ?_ | refine WC.exit ?_ | refine blk_hit ?_ | refine blk_miss rfl ?_ | refine WC.ret ?_)
          refine WL.val rfl rfl rfl (yLookM (k := ((v : Nat) : Int)) (l := bV B) (keyT_int rfl) rfl rfl rfl rfl (hp6.obj 1 rfl)) ?_
          rw [show lkM (bV B) ((v : Nat) : Int) ti3.zero false = Value.int .i64 ((u : Nat) : Int) from by rw [← hu2]; exact hlk]
          repeat (first | refine WC.seq ?_ | refine WC.reg ?_ | refine WL.pure rfl rfl rfl ?_ | refine WL.nil ?_ | refine WC.skip ?_ | refine WC.block ?_ | refine WC.condT rfl ?_ | refine WC.condF rfl ?_ | refine WL.off rfl rfl rfl ?_ | refine WL.off0 rfl rfl ?_ | refine WC.exit ?_ | refine blk_hit ?_ | refine blk_miss rfl ?_ | refine WC.ret ?_)
          refine WL.buildS (cs := [.int .i64 (u : Nat)]) rfl rfl rfl rfl rfl rfl rfl rfl rfl (fun b7 w7 h7 => ?_)
          have hp7 : Hp w w7 (Rna (.slice (some ⟨b7, 0, none⟩) 1 1) 1 [u] :: Rna (.slice oa out.length oc) out.length out :: [mE mb B] ++ Q) := Hp.toRow (s := 1) (m := 1) (hp6.new h7) rfl (by unfold maxLen; decide)
          repeat (first | refine WC.seq ?_ | refine WC.reg ?_ | refine WL.pure rfl rfl rfl ?_ | refine WL.nil ?_ | refine WC.skip ?_ | refine WC.block ?_ | refine WC.condT rfl ?_ | refine WC.condF rfl ?_ | refine WL.off rfl rfl rfl ?_ | refine WL.off0 rfl rfl ?_ | refine WC.exit ?_ | refine blk_hit ?_ | refine blk_miss rfl ?_ | refine WC.ret ?_)
          refine WL.append 0 hp7 rfl rfl rfl rfl rfl (by decide) rfl rfl rfl (news := natL out) (Sl.of_row (hp7.at 1 rfl)) (by rw [natL_len]; exact (Nat.mul_one _).symm) (natL_cells _) (by unfold maxLen; omega) (by show (1 + out.length) * 8 ≤ _; omega) ?_
          intro oa2 oc2 w8 hp8 _
          have hp9 : Hp w w8 (Rna (.slice oa2 (u :: out).length oc2) (u :: out).length (u :: out) :: Rna (.slice oa out.length oc) out.length out :: [mE mb B] ++ Q) := by
            rw [show (u :: out).length = 1 + out.length by rw [List.length_cons]; omega]
            exact hp8
          have e9 : Value.slice oa2 (1 + out.length) oc2 = .slice oa2 (u :: out).length oc2 := by rw [List.length_cons, Nat.add_comm]
          rw [e9]
          repeat (first | refine WC.seq ?_ | refine WC.reg ?_ | refine WL.pure rfl rfl rfl ?_ | refine WL.nil ?_ | refine WC.skip ?_ | refine WC.block ?_ | refine WC.condT rfl ?_ | refine WC.condF rfl ?_ | refine WL.off rfl rfl rfl ?_ | refine WL.off0 rfl rfl ?_ | refine WC.exit ?_ | refine blk_hit ?_ | refine blk_miss rfl ?_ | refine WC.ret ?_)
          exact ⟨(g0, u, u :: out, oa2, oc2), Nat.lt_succ_self g0, ⟨rfl, rfl, rfl, rfl⟩, hbk2, by rw [List.length_cons]; omega, hp9.drop1⟩
        · have c4 : ¬ 0 ≤ (lkB B v).getD 0 := of_decide_eq_false c4
          obtain rfl := backM_end hbk c4
          obtain ⟨b, rfl⟩ := hp6.rowSome 0 rfl (List.length_pos_iff.2 hne)
          repeat (first | refine WC.seq ?_ | refine WC.reg ?_ | refine WL.pure rfl rfl rfl ?_ | refine WL.nil ?_ | refine WC.skip ?_ | refine WC.block ?_ | refine WC.condT rfl ?_ | refine WC.condF rfl ?_ | refine WL.off rfl rfl rfl ?_ | refine WL.off0 rfl rfl ?_ | refine WC.exit ?_ | refine blk_hit ?_ | refine blk_miss rfl ?_ | refine WC.ret ?_)
          exact Res.one rfl rfl rfl ⟨hne, b, oc, rfl, hp6.pick [0] (by decide)⟩
      · rw [if_neg (by rw [c3]; decide)] at hM
        have hvr : v < rs.length := by omega
        have hrb := hrow _ (List.getElem_mem hvr)
        have hrin := hin _ (List.getElem_mem hvr)
        have hrs := hT.rows _ (List.getElem_mem hvr)
        have htab := hT.tab
        have hat := rsV_at hvr
        rw [rsN_at hvr] at hM
        generalize rs[v] = x at *
        obtain ⟨ra, rc, row⟩ := x
        simp only at hrb hrin hrs hM hat
        have hok := hok.tail
        repeat (first | refine WC.seq ?_ | refine WC.reg ?_ | refine WL.pure rfl rfl rfl ?_ | refine WL.nil ?_ | refine WC.skip ?_ | refine WC.block ?_ | refine WC.condT rfl ?_ | refine WC.condF rfl ?_ | refine WL.off rfl rfl rfl ?_ | refine WL.off0 rfl rfl ?_ | refine WC.exit ?_ | refine blk_hit ?_ | refine blk_miss rfl ?_ | refine WC.ret ?_)
        refine WL.ixload rfl (fun _ => rfl) rfl rfl rfl rfl rfl rfl rfl hv rfl rfl (htab.hp hp3) hat ?_
        intro q0
        repeat (first | refine WC.seq ?_ | refine WC.reg ?_ | refine WL.pure rfl rfl rfl ?_ | refine WL.nil ?_ | refine WC.skip ?_ | refine WC.block ?_ | refine WC.condT rfl ?_ | refine WC.condF rfl ?_ | refine WL.off rfl rfl rfl ?_ | refine WL.off0 rfl rfl ?_ | refine WC.exit ?_ | refine blk_hit ?_ | refine blk_miss rfl ?_ | refine WC.ret ?_)
        refine WC.loop (Nat × Bef × List Nat × Option Addr × Nat × List Ent) (fun (i, B, q, qa, qc, Q) => [(15, .int .i64 (v : Nat)), (76, .slice ra row.length rc), (77, .int .i64 (row.length : Nat)), (78, .int .i64 (i : Nat))] ++ wyE an cn N mf mc ff fc mb q qa qc)
          (fun (i, B, q, qa, qc, Q) w' => i ≤ row.length ∧ wayGo FB (rsN rs) may fits f0 ((row.drop i).foldl (addM may v) (B, q)) = some r ∧ BefOk N B q ∧ Quo 3 (.slice qa q.length qc) (natL q) Q ∧ Hp w w' ([mE mb B] ++ Q)) (fun (i, _) => row.length - i) (0, B, q, qa2, qc2, Q) ⟨rfl, rfl, rfl, rfl, rfl, rfl, rfl, rfl, rfl, rfl⟩
          ⟨Nat.zero_le _, hM, hok, hQ', hp3⟩ ?_
        clear hM hok hQ' hp3 hqs
        rintro ⟨i, B, q, qa, qc, Q⟩ w4 ⟨hi, hM, hok, hQ, hp4⟩
        replace hi : i ≤ row.length := hi
        replace hM : wayGo FB (rsN rs) may fits f0 ((row.drop i).foldl (addM may v) (B, q)) = some r := hM
        replace hok : BefOk N B q := hok
        replace hQ : Quo 3 (.slice qa q.length qc) (natL q) Q := hQ
        replace hp4 : Hp w w4 ([mE mb B] ++ Q) := hp4
        have hqs := hok.small
        repeat (first | refine WC.seq ?_ | refine WC.reg ?_ | refine WL.pure rfl rfl rfl ?_ | refine WL.nil ?_ | refine WC.skip ?_ | refine WC.block ?_ | refine WC.condT rfl ?_ | refine WC.condF rfl ?_ | refine WL.off rfl rfl rfl ?_ | refine WL.off0 rfl rfl ?_ | refine WC.exit ?_ | refine blk_hit ?_ | refine blk_miss rfl ?_ | refine WC.ret ?_)
        refine WC.cond rfl (fun c4 => ?_) (fun c4 => ?_)
        · have hi : i < row.length := by have h : ((i : Nat) : Int) < ((row.length : Nat) : Int) := of_decide_eq_true c4; omega
          have step := wrap_succ (i := i) (n := i + 1) (by omega) (by omega)
          obtain ⟨u, hu⟩ : ∃ u, u = row[i] := ⟨_, rfl⟩
          have huN : u < N := by rw [hu]; exact hrin _ (List.getElem_mem hi)
          rw [List.drop_eq_getElem_cons hi, List.foldl_cons, ← hu] at hM
          repeat (first | refine WC.seq ?_ | refine WC.reg ?_ | refine WL.pure rfl rfl rfl ?_ | refine WL.nil ?_ | refine WC.skip ?_ | refine WC.block ?_ | refine WC.condT rfl ?_ | refine WC.condF rfl ?_ | refine WL.off rfl rfl rfl ?_ | refine WL.off0 rfl rfl ?_ | refine WC.exit ?_ | refine blk_hit ?_ | refine blk_miss rfl ?_ | refine WC.ret ?_)
          refine WL.ixload rfl (fun _ => rfl) rfl rfl rfl rfl rfl rfl rfl hi rfl rfl (hrs.hp hp4) (natL_at hi) ?_
          intro q0
          rw [← hu]
          repeat (first | refine WC.seq ?_ | refine WC.reg ?_ | refine WL.pure rfl rfl rfl ?_ | refine WL.nil ?_ | refine WC.skip ?_ | refine WC.block ?_ | refine WC.condT rfl ?_ | refine WC.condF rfl ?_ | refine WL.off rfl rfl rfl ?_ | refine WL.off0 rfl rfl ?_ | refine WC.exit ?_ | refine blk_hit ?_ | refine blk_miss rfl ?_ | refine WC.ret ?_)
          refine WL.val rfl rfl rfl (yLookM (k := ((u : Nat) : Int)) (l := bV B) (keyT_int rfl) rfl rfl rfl rfl (hp4.obj 0 rfl)) ?_
          unfold lkM
          rw [bV_get]
          cases hq : lkB B u with
          | none =>
            repeat (first | refine WC.seq ?_ | refine WC.reg ?_ | refine WL.pure rfl rfl rfl ?_ | refine WL.nil ?_ | refine WC.skip ?_ | refine WC.block ?_ | refine WC.condT rfl ?_ | refine WC.condF rfl ?_ | refine WL.off rfl rfl rfl ?_ | refine WL.off0 rfl rfl ?_ | refine WC.exit ?_ | refine blk_hit ?_ | refine blk_miss rfl ?_ | refine WC.ret ?_)
            refine WL.call rfl rfl rfl rfl rfl hmE (hmay u w4 huN hp4.nil') ?_
            rintro _ w5 ⟨rfl, hp5⟩
            replace hp5 := hp4.call hp5.below
            repeat (first | refine WC.seq ?_ | refine WC.reg ?_ | refine WL.pure rfl rfl rfl ?_ | refine WL.nil ?_ | refine WC.skip ?_ | refine WC.block ?_ | refine WC.condT rfl ?_ | refine WC.condF rfl ?_ | refine WL.off rfl rfl rfl ?_ | refine WL.off0 rfl rfl ?_ | refine WC.exit ?_ | refine blk_hit ?_ | refine blk_miss rfl ?_ | refine WC.ret ?_)
            refine WC.cond rfl (fun c5 => ?_) (fun c5 => ?_)
            · rw [addM_yes (by rw [hq, c5]; rfl)] at hM
              repeat (first | refine WC.seq ?_ | refine WC.reg ?_ | refine WL.pure rfl rfl rfl ?_ | refine WL.nil ?_ | refine WC.skip ?_ | refine WC.block ?_ | refine WC.condT rfl ?_ | refine WC.condF rfl ?_ | refine WL.off rfl rfl rfl ?_ | refine WL.off0 rfl rfl ?_ | refine WC.exit ?_ | refine blk_hit ?_ | refine blk_miss rfl ?_ | refine WC.ret ?_)
              refine WL.skip rfl rfl (yMapSet (k := ((u : Nat) : Int)) (l := bV B) (v := .int .i64 ((v : Nat) : Int)) (keyT_int rfl) rfl rfl rfl rfl (hp5.obj 0 rfl)) ?_
              have hp6 := hp5.set 0 rfl rfl (setB_put (hp5.obj 0 rfl) (o' := mapO iKey (kPut (bV B) ((u : Nat) : Int) (.int .i64 ((v : Nat) : Int)))))
              generalize (w5.putObj mb (mapO iKey (kPut (bV B) ((u : Nat) : Int) (.int .i64 ((v : Nat) : Int))))) = w6 at *
              rw [bV_put ((v : Nat) : Int) hq] at hp6
              repeat (first | refine WC.seq ?_ | refine WC.reg ?_ | refine WL.pure rfl rfl rfl ?_ | refine WL.nil ?_ | refine WC.skip ?_ | refine WC.block ?_ | refine WC.condT rfl ?_ | refine WC.condF rfl ?_ | refine WL.off rfl rfl rfl ?_ | refine WL.off0 rfl rfl ?_ | refine WC.exit ?_ | refine blk_hit ?_ | refine blk_miss rfl ?_ | refine WC.ret ?_)
              refine WL.buildS (cs := [.int .i64 (u : Nat)]) rfl rfl rfl rfl rfl rfl rfl rfl rfl (fun b7 w7 h7 => ?_)
              have hp7 := hp6.new h7
              refine WL.appN (A := [_, _]) rfl rfl rfl rfl rfl rfl rfl rfl hp7 hQ (cell_of_obj (hp7.obj 0 rfl) rfl) (by omega) (by decide) ?_
              intro qa2 qc2 w8 Q2 hp8 hQ2
              repeat (first | refine WC.seq ?_ | refine WC.reg ?_ | refine WL.pure rfl rfl rfl ?_ | refine WL.nil ?_ | refine WC.skip ?_ | refine WC.block ?_ | refine WC.condT rfl ?_ | refine WC.condF rfl ?_ | refine WL.off rfl rfl rfl ?_ | refine WL.off0 rfl rfl ?_ | refine WC.exit ?_ | refine blk_hit ?_ | refine blk_miss rfl ?_ | refine WC.ret ?_)
              exact ⟨(i + 1, B ++ [(u, ((v : Nat) : Int))], q ++ [u], qa2, qc2, Q2), (by show row.length - (i + 1) < row.length - i; omega), ⟨rfl, rfl, rfl, congrArg (fun z => some (Value.int .i64 z)) step, rfl, rfl, rfl, rfl, rfl, rfl⟩, hi, hM, hok.add huN hq, hQ2, hp8.tail⟩
            · rw [addM_no (by rw [hq, c5]; decide)] at hM
              repeat (first | refine WC.seq ?_ | refine WC.reg ?_ | refine WL.pure rfl rfl rfl ?_ | refine WL.nil ?_ | refine WC.skip ?_ | refine WC.block ?_ | refine WC.condT rfl ?_ | refine WC.condF rfl ?_ | refine WL.off rfl rfl rfl ?_ | refine WL.off0 rfl rfl ?_ | refine WC.exit ?_ | refine blk_hit ?_ | refine blk_miss rfl ?_ | refine WC.ret ?_)
              exact ⟨(i + 1, B, q, qa, qc, Q), (by show row.length - (i + 1) < row.length - i; omega), ⟨rfl, rfl, rfl, congrArg (fun z => some (Value.int .i64 z)) step, rfl, rfl, rfl, rfl, rfl, rfl⟩, hi, hM, hok, hQ, hp5⟩
          | some x =>
            rw [addM_no (by rw [hq]; simp)] at hM
            repeat (first | refine WC.seq ?_ | refine WC.reg ?_ | refine WL.pure rfl rfl rfl ?_ | refine WL.nil ?_ | refine WC.skip ?_ | refine WC.block ?_ | refine WC.condT rfl ?_ | refine WC.condF rfl ?_ | refine WL.off rfl rfl rfl ?_ | refine WL.off0 rfl rfl ?_ | refine WC.exit ?_ | refine blk_hit ?_ | refine blk_miss rfl ?_ | refine WC.ret ?_)
            exact ⟨(i + 1, B, q, qa, qc, Q), (by show row.length - (i + 1) < row.length - i; omega), ⟨rfl, rfl, rfl, congrArg (fun z => some (Value.int .i64 z)) step, rfl, rfl, rfl, rfl, rfl, rfl⟩, hi, hM, hok, hQ, hp4⟩
        · have hi : i = row.length := by have h : ¬ ((i : Nat) : Int) < ((row.length : Nat) : Int) := of_decide_eq_false c4; omega
          subst hi
          rw [List.drop_length, List.foldl_nil] at hM
          repeat (first | refine WC.seq ?_ | refine WC.reg ?_ | refine WL.pure rfl rfl rfl ?_ | refine WL.nil ?_ | refine WC.skip ?_ | refine WC.block ?_ | refine WC.condT rfl ?_ | refine WC.condF rfl ?_ | refine WL.off rfl rfl rfl ?_ | refine WL.off0 rfl rfl ?_ | refine WC.exit ?_ | refine blk_hit ?_ | refine blk_miss rfl ?_ | refine WC.ret ?_)
          exact ⟨(f0, B, q, qa, qc, Q), Nat.lt_succ_self f0, ⟨rfl, rfl, rfl, rfl, rfl, rfl⟩, hM, hok, hQ, hp4⟩
    · have c2 : q = [] := List.eq_nil_of_length_eq_zero (by have h : ¬ (0 : Int) < ((q.length : Nat) : Int) := of_decide_eq_false c2; omega)
      subst c2
      have : r = none := by
        cases f with
        | zero => unfold wayGo at hM; simpa using hM.symm
        | succ f => unfold wayGo at hM; simpa using hM.symm
      subst this
      repeat (first | refine WC.seq ?_ | refine WC.reg ?_ | refine WL.pure rfl rfl rfl ?_ | refine WL.nil ?_ | refine WC.skip ?_ | refine WC.block ?_ | refine WC.condT rfl ?_ | refine WC.condF rfl ?_ | refine WL.off rfl rfl rfl ?_ | refine WL.off0 rfl rfl ?_ | refine WC.exit ?_ | refine blk_hit ?_ | refine blk_miss rfl ?_ | refine WC.ret ?_)
      exact Res.one rfl rfl rfl ⟨rfl, hp2.nil'⟩
end Go.Proofs.YtpbbneclkhfgoaaDoor
end
section
/- ltl, twenty-fifth: the other two tests of run. -/
namespace Go.Proofs.YtpbbneclkhfgoaaDoor
open Go.W Go.Ltl Go.RowKit
set_option maxRecDepth 100000
attribute [local irreducible] WC WL WQ WS WH

section
variable {P : Program} [T : TT P] {n : Nat} {l0 rest : List Oper} {C : World → Prop} {M : Env → Prop} {e : Env} {ty : TypeId} {pos : String} {aft : Array Edge} {g : Option (Nat × Bool)}
/-- A lookup of a number, in every world of the class. -/
theorem WQ.lookM {d : Nat} {t kt vt : TypeId} {z : Value} {s0 b0 b : Nat} {iv : TI} {x ix : Operand} {l : List (Int × Value)} {k : Int} {v : Value} (hg : grd l0 e g = some true) (hd : Nat.blt d n = true)
    (hK : KeyT P kt iKey) (ht : T.ti t = some ⟨.map kt vt, z, s0, b0⟩) (hv : T.ti vt = some iv) (hx : opv e x = some (.map (some b))) (hix : opv e ix = some (.int .i64 k)) (hb : ∀ w, C w → w.heap[b]? = some (mapO iKey l)) (hl : (kGet l k).getD iv.zero = v)
    (h : Go.W.WQ P n l0 C M rest ((d, v) :: e)) : Go.W.WQ P n l0 C M (⟨some d, .lookup t x ix false, ty, pos, aft, g⟩ :: rest) e :=
  Go.W.WQ.val hg hd (fun w hw => by rw [← hl]; exact yLookM (k := k) (c := false) hK ht hv hx hix (hb w hw)) h
end
/-- What the test of the stem reads. -/
structure Rd2 (w : World) (N b9 b6 b8 b7 : Nat) (of_ : List Nat) (tb fb ob : Nat) (TL FL : List (Int × Value)) (tn : Nat → Bool) (fr : Nat → Nat) (all : Nat) : Prop where
  h9 : w.cell? ⟨b9, 0, none⟩ = some (.map (some tb))
  hT : w.heap[tb]? = some (mapO iKey TL)
  tn : ∀ c : Nat, (kGet TL (c : Int)).getD (.bool false) = .bool (tn c)
  h6 : w.cell? ⟨b6, 0, none⟩ = some (sN ob N)
  hO : Sl w (some ⟨ob, 0, none⟩) (natL of_)
  hN : of_.length = N
  h8 : w.cell? ⟨b8, 0, none⟩ = some (.map (some fb))
  hF : w.heap[fb]? = some (mapO iKey FL)
  fr : ∀ c : Nat, (kGet FL (c : Int)).getD (.int .i64 0) = .int .i64 (fr c : Nat)
  h7 : w.cell? ⟨b7, 0, none⟩ = some (.int .i64 (all : Nat))
theorem Rd2.below {w w' : World} {N b9 b6 b8 b7 : Nat} {of_ : List Nat} {tb fb ob : Nat} {TL FL : List (Int × Value)} {tn : Nat → Bool} {fr : Nat → Nat} {all : Nat} (h : Rd2 w N b9 b6 b8 b7 of_ tb fb ob TL FL tn fr all) (hb : Below w.heap.size w w') : Rd2 w' N b9 b6 b8 b7 of_ tb fb ob TL FL tn fr all :=
  ⟨cell_below hb h.h9, by rw [hb.block tb (Array.getElem?_eq_some_iff.1 h.hT).1]; exact h.hT, h.tn, cell_below hb h.h6, h.hO.below hb, h.hN, cell_below hb h.h8, by rw [hb.block fb (Array.getElem?_eq_some_iff.1 h.hF).1]; exact h.hF, h.fr, cell_below hb h.h7⟩
theorem run2_any {w : World} {N b9 b6 b8 b7 : Nat} {of_ : List Nat} {tb fb ob : Nat} {TL FL : List (Int × Value)} {tn : Nat → Bool} {fr : Nat → Nat} {all : Nat} (h : Rd2 w N b9 b6 b8 b7 of_ tb fb ob TL FL tn fr all) (v : Nat) (hv : v < N) :
    Ret Tryd.prog 91 [.int .i64 (v : Nat), ptr b9, ptr b6, ptr b8, ptr b7] w fun u w' => u = .bool (tn (of_.getD v 0) && decide (fr (of_.getD v 0) = all)) ∧ Hp w w' [] := by
  refine enter Tryd.func91 rfl rfl ⟨rfl, rfl⟩ rfl ?_
  repeat (first | refine WC.seq ?_ | refine WC.reg ?_ | refine WL.pure rfl rfl rfl ?_ | refine WL.nil ?_ | refine WC.skip ?_ | refine WC.block ?_ | refine WC.condT rfl ?_ | refine WC.condF rfl ?_ | refine WL.off rfl rfl rfl ?_ | refine WL.off0 rfl rfl ?_ | refine WC.exit ?_ | refine blk_hit ?_ | refine blk_miss rfl ?_ | refine WC.ret ?_)
  refine WC.regQ (fun w' => Hp w w' []) mixed (by kernel_rfl) (fun w' hw' => (Hp.start w).keep hw') ?_
  refine WQ.load rfl rfl rfl rfl rfl (fun w' q => cell_below q.below h.h9) ?_
  refine WQ.load rfl rfl rfl rfl rfl (fun w' q => cell_below q.below h.h6) ?_
  repeat (first | refine WQ.pure rfl rfl rfl ?_ | refine WQ.off rfl rfl rfl ?_ | refine WQ.nil ?_)
  refine WQ.ixload rfl (fun _ => rfl) rfl rfl rfl rfl rfl rfl rfl hv rfl rfl (fun w' q => Sl.cell (h.hO.hp q) (nd h.hN hv)) ?_
  refine WQ.lookM (k := ((of_.getD v 0 : Nat) : Int)) rfl rfl (keyT_int rfl) rfl rfl rfl rfl (fun w' q => (h.below q.below).hT) (h.tn _) ?_
  repeat (first | refine WQ.pure rfl rfl rfl ?_ | refine WQ.off rfl rfl rfl ?_ | refine WQ.nil ?_)
  refine WQ.split 13 rfl (fun c1 => ?_) (fun c1 => ?_)
  · rw [c1, Bool.true_and]
    refine WQ.load rfl rfl rfl rfl rfl (fun w' q => cell_below q.below h.h8) ?_
    refine WQ.load rfl rfl rfl rfl rfl (fun w' q => cell_below q.below h.h6) ?_
    repeat (first | refine WQ.pure rfl rfl rfl ?_ | refine WQ.off rfl rfl rfl ?_ | refine WQ.nil ?_)
    refine WQ.ixload rfl (fun _ => rfl) rfl rfl rfl rfl rfl rfl rfl hv rfl rfl (fun w' q => Sl.cell (h.hO.hp q) (nd h.hN hv)) ?_
    refine WQ.lookM (k := ((of_.getD v 0 : Nat) : Int)) rfl rfl (keyT_int rfl) rfl rfl rfl rfl (fun w' q => (h.below q.below).hF) (h.fr _) ?_
    refine WQ.load rfl rfl rfl rfl rfl (fun w' q => cell_below q.below h.h7) ?_
    repeat (first | refine WQ.pure rfl rfl rfl ?_ | refine WQ.off rfl rfl rfl ?_ | refine WQ.nil ?_)
    intro w2 hp2
    repeat (first | refine WC.seq ?_ | refine WC.reg ?_ | refine WL.pure rfl rfl rfl ?_ | refine WL.nil ?_ | refine WC.skip ?_ | refine WC.block ?_ | refine WC.condT rfl ?_ | refine WC.condF rfl ?_ | refine WL.off rfl rfl rfl ?_ | refine WL.off0 rfl rfl ?_ | refine WC.exit ?_ | refine blk_hit ?_ | refine blk_miss rfl ?_ | refine WC.ret ?_)
    refine Res.one rfl rfl rfl ⟨?_, hp2⟩
    congr 1
    rw [Bool.eq_iff_iff, beq_iff_eq, decide_eq_true_iff]
    exact Int.ofNat_inj
  · rw [c1, Bool.false_and]
    repeat (first | refine WQ.pure rfl rfl rfl ?_ | refine WQ.off rfl rfl rfl ?_ | refine WQ.nil ?_)
    intro w2 hp2
    repeat (first | refine WC.seq ?_ | refine WC.reg ?_ | refine WL.pure rfl rfl rfl ?_ | refine WL.nil ?_ | refine WC.skip ?_ | refine WC.block ?_ | refine WC.condT rfl ?_ | refine WC.condF rfl ?_ | refine WL.off rfl rfl rfl ?_ | refine WL.off0 rfl rfl ?_ | refine WC.exit ?_ | refine blk_hit ?_ | refine blk_miss rfl ?_ | refine WC.ret ?_)
    exact Res.one rfl rfl rfl ⟨rfl, hp2⟩
theorem run4_any {w : World} {b1 b21 b7 b18 xb : Nat} {nx mk : Value} {starts : Nat} {lv : Value} {pairs : Nat} {wv tv : Value} {fa : Option Addr} {fcap N : Nat} {fair : List Nat} {seen all home : Nat} (h1 : w.cell? ⟨b1, 0, none⟩ = some (ptr xb))
    (hx : w.heap[xb]? = some (Sxo nx mk starts lv pairs wv tv (.slice fa N fcap))) (hf : Sl w fa (natL fair)) (hN : fair.length = N) (hfb : ∀ x ∈ fair, x < 2 ^ 40) (hsb : seen < 2 ^ 40)
    (h21 : w.cell? ⟨b21, 0, none⟩ = some (.int .i64 (seen : Nat))) (h7 : w.cell? ⟨b7, 0, none⟩ = some (.int .i64 (all : Nat))) (h18 : w.cell? ⟨b18, 0, none⟩ = some (.int .i64 (home : Nat))) (v : Nat) (hv : v < N) :
    Ret Tryd.prog 93 [.int .i64 (v : Nat), ptr b1, ptr b21, ptr b7, ptr b18] w fun u w' => u = .bool (loopFits fair all home seen v) ∧ Hp w w' [] := by
  have hc7 : w.cell? ⟨xb, 7, none⟩ = some (.slice fa N fcap) := cell_of_obj (j := 7) hx rfl
  have hfv : fair.getD v 0 < 2 ^ 40 := by
    have : fair.getD v 0 = fair[v]'(by omega) := by simp [hN, hv]
    rw [this]; exact hfb _ (List.getElem_mem _)
  obtain ⟨fb, fo, rfl, hfc⟩ := hf _ _ (nd hN hv)
  have e1 : bits .andNot .i64 ((fair.getD v 0 : Nat) : Int) ((seen : Nat) : Int) = ((bd (fair.getD v 0) seen : Nat) : Int) := andNot_i64 (by omega) (by omega)
  unfold loopFits
  refine enter Tryd.func93 rfl rfl ⟨rfl, rfl⟩ rfl ?_
  repeat (first | refine WC.seq ?_ | refine WC.reg ?_ | refine WL.pure rfl rfl rfl ?_ | refine WL.nil ?_ | refine WC.skip ?_ | refine WC.block ?_ | refine WC.condT rfl ?_ | refine WC.condF rfl ?_ | refine WL.off rfl rfl rfl ?_ | refine WL.off0 rfl rfl ?_ | refine WC.exit ?_ | refine blk_hit ?_ | refine blk_miss rfl ?_ | refine WC.ret ?_)
  refine WC.regQ (fun w' => Hp w w' []) mixed (by kernel_rfl) (fun w' hw' => (Hp.start w).keep hw') ?_
  refine WQ.load rfl rfl rfl rfl rfl (fun w' q => cell_below q.below h1) ?_
  refine WQ.nilC rfl rfl rfl ?_
  repeat (first | refine WQ.pure rfl rfl rfl ?_ | refine WQ.off rfl rfl rfl ?_ | refine WQ.nil ?_)
  refine WQ.load rfl rfl rfl rfl rfl (fun w' q => cell_below q.below hc7) ?_
  repeat (first | refine WQ.pure rfl rfl rfl ?_ | refine WQ.off rfl rfl rfl ?_ | refine WQ.nil ?_)
  refine WQ.ixload rfl (fun _ => rfl) rfl rfl rfl rfl rfl rfl rfl hv rfl rfl (fun w' q => cell_below q.below hfc) ?_
  refine WQ.load rfl rfl rfl rfl rfl (fun w' q => cell_below q.below h21) ?_
  refine WQ.pure rfl rfl rfl ?_
  refine WQ.known (d := 15) (congrArg (fun z => some (Value.int .i64 z)) e1) ?_
  generalize bd (fair.getD v 0) seen = dif at *
  repeat (first | refine WQ.pure rfl rfl rfl ?_ | refine WQ.off rfl rfl rfl ?_ | refine WQ.nil ?_)
  refine WQ.split 17 rfl (fun c1 => ?_) (fun c1 => ?_)
  · have c1 : dif ≠ 0 := by simpa using c1
    rw [decide_eq_true c1, Bool.true_or]
    repeat (first | refine WQ.pure rfl rfl rfl ?_ | refine WQ.off rfl rfl rfl ?_ | refine WQ.nil ?_)
    intro w2 hp2
    repeat (first | refine WC.seq ?_ | refine WC.reg ?_ | refine WL.pure rfl rfl rfl ?_ | refine WL.nil ?_ | refine WC.skip ?_ | refine WC.block ?_ | refine WC.condT rfl ?_ | refine WC.condF rfl ?_ | refine WL.off rfl rfl rfl ?_ | refine WL.off0 rfl rfl ?_ | refine WC.exit ?_ | refine blk_hit ?_ | refine blk_miss rfl ?_ | refine WC.ret ?_)
    exact Res.one rfl rfl rfl ⟨rfl, hp2⟩
  · have c1 : ¬ dif ≠ 0 := by simpa using c1
    rw [decide_eq_false c1, Bool.false_or]
    refine WQ.load rfl rfl rfl rfl rfl (fun w' q => cell_below q.below h21) ?_
    refine WQ.load rfl rfl rfl rfl rfl (fun w' q => cell_below q.below h7) ?_
    repeat (first | refine WQ.pure rfl rfl rfl ?_ | refine WQ.off rfl rfl rfl ?_ | refine WQ.nil ?_)
    refine WQ.split 21 rfl (fun c2 => ?_) (fun c2 => ?_)
    · have c2 : seen = all := Int.ofNat_inj.1 (beq_iff_eq.1 c2)
      rw [decide_eq_true c2, Bool.true_and]
      repeat (first | refine WQ.pure rfl rfl rfl ?_ | refine WQ.off rfl rfl rfl ?_ | refine WQ.nil ?_)
      refine WQ.load rfl rfl rfl rfl rfl (fun w' q => cell_below q.below h18) ?_
      repeat (first | refine WQ.pure rfl rfl rfl ?_ | refine WQ.off rfl rfl rfl ?_ | refine WQ.nil ?_)
      intro w2 hp2
      repeat (first | refine WC.seq ?_ | refine WC.reg ?_ | refine WL.pure rfl rfl rfl ?_ | refine WL.nil ?_ | refine WC.skip ?_ | refine WC.block ?_ | refine WC.condT rfl ?_ | refine WC.condF rfl ?_ | refine WL.off rfl rfl rfl ?_ | refine WL.off0 rfl rfl ?_ | refine WC.exit ?_ | refine blk_hit ?_ | refine blk_miss rfl ?_ | refine WC.ret ?_)
      refine Res.one rfl rfl rfl ⟨?_, hp2⟩
      congr 1
      rw [Bool.eq_iff_iff, beq_iff_eq, decide_eq_true_iff]
      exact Int.ofNat_inj
    · have c2 : ¬ seen = all := fun h => by rw [h] at c2; simp at c2
      rw [decide_eq_false c2, Bool.false_and]
      repeat (first | refine WQ.pure rfl rfl rfl ?_ | refine WQ.off rfl rfl rfl ?_ | refine WQ.nil ?_)
      intro w2 hp2
      repeat (first | refine WC.seq ?_ | refine WC.reg ?_ | refine WL.pure rfl rfl rfl ?_ | refine WL.nil ?_ | refine WC.skip ?_ | refine WC.block ?_ | refine WC.condT rfl ?_ | refine WC.condF rfl ?_ | refine WL.off rfl rfl rfl ?_ | refine WL.off0 rfl rfl ?_ | refine WC.exit ?_ | refine blk_hit ?_ | refine blk_miss rfl ?_ | refine WC.ret ?_)
      exact Res.one rfl rfl rfl ⟨rfl, hp2⟩
end Go.Proofs.YtpbbneclkhfgoaaDoor
end
section
/- ltl, twenty-sixth: run. -/
namespace Go.Proofs.YtpbbneclkhfgoaaDoor
open Go.W Go.Ltl Go.RowKit
set_option maxRecDepth 100000
attribute [local irreducible] WC WL WQ WS WH

theorem states2_any (xb : Nat) (nx mk : Value) (starts : Nat) (lv : Value) (pairs : Nat) (wv tv fv : Value) (hp0 : 0 < pairs) (a : Option Addr) (c : Nat) (l : List Nat) (hl : l.length ≤ 4398046511104) (hb : ∀ x ∈ l, x < 9223372036854775808) (w : World)
    (hx : w.heap[xb]? = some (Sxo nx mk starts lv pairs wv tv fv)) (hs : Sl w a (natL l)) :
    Ret Tryd.prog 94 [ptr xb, .slice a l.length c] w fun v w' => ∃ ra rc, v = .slice ra l.length rc ∧ Hp w w' [Rna (.slice ra l.length rc) l.length (l.map (· / pairs))] := by
  have hne : ((pairs : Nat) : Int) ≠ 0 := by omega
  refine enter Tryd.func94 rfl rfl ⟨rfl, rfl⟩ rfl ?_
  have hpc : w.cell? ⟨xb, 0 + 4, none⟩ = some (.int .i64 (pairs : Nat)) := cell_of_obj hx rfl
  repeat (first | refine WC.seq ?_ | refine WC.reg ?_ | refine WL.pure rfl rfl rfl ?_ | refine WL.nil ?_ | refine WC.skip ?_ | refine WC.block ?_ | refine WC.condT rfl ?_ | refine WC.condF rfl ?_ | refine WL.off rfl rfl rfl ?_ | refine WL.off0 rfl rfl ?_ | refine WC.exit ?_ | refine blk_hit ?_ | refine blk_miss rfl ?_ | refine WC.ret ?_)
  refine WC.loop (Nat × Option Addr × Nat) (fun (i, ra, rc) => [(0, ptr xb), (5, .slice ra i rc), (8, .slice a l.length c), (9, .int .i64 (l.length : Nat)), (10, .int .i64 (i : Nat))])
    (fun (i, ra, rc) w' => i ≤ l.length ∧ Hp w w' [Rna (.slice ra i rc) i ((l.take i).map (· / pairs))]) (fun (i, _, _) => l.length - i) (0, none, 0) ⟨rfl, rfl, rfl, rfl, rfl, rfl⟩ ⟨Nat.zero_le _, (Hp.start w).nilrow _ _⟩ ?_
  rintro ⟨i, ra, rc⟩ w1 ⟨hi, hp1⟩
  replace hi : i ≤ l.length := hi
  replace hp1 : Hp w w1 [Rna (.slice ra i rc) i ((l.take i).map (· / pairs))] := hp1
  repeat (first | refine WC.seq ?_ | refine WC.reg ?_ | refine WL.pure rfl rfl rfl ?_ | refine WL.nil ?_ | refine WC.skip ?_ | refine WC.block ?_ | refine WC.condT rfl ?_ | refine WC.condF rfl ?_ | refine WL.off rfl rfl rfl ?_ | refine WL.off0 rfl rfl ?_ | refine WC.exit ?_ | refine blk_hit ?_ | refine blk_miss rfl ?_ | refine WC.ret ?_)
  refine WC.cond rfl (fun h1 => ?_) (fun h1 => ?_)
  · have hi : i < l.length := by have := of_decide_eq_true h1; omega
    have step := wrap_succ (i := i) (n := i + 1) (by omega) (by omega)
    repeat (first | refine WC.seq ?_ | refine WC.reg ?_ | refine WL.pure rfl rfl rfl ?_ | refine WL.nil ?_ | refine WC.skip ?_ | refine WC.block ?_ | refine WC.condT rfl ?_ | refine WC.condF rfl ?_ | refine WL.off rfl rfl rfl ?_ | refine WL.off0 rfl rfl ?_ | refine WC.exit ?_ | refine blk_hit ?_ | refine blk_miss rfl ?_ | refine WC.ret ?_)
    refine WL.ixload rfl (fun _ => rfl) rfl rfl rfl rfl rfl rfl rfl hi rfl rfl (hs.hp hp1) (natL_at hi) ?_
    intro q
    repeat (first | refine WC.seq ?_ | refine WC.reg ?_ | refine WL.pure rfl rfl rfl ?_ | refine WL.nil ?_ | refine WC.skip ?_ | refine WC.block ?_ | refine WC.condT rfl ?_ | refine WC.condF rfl ?_ | refine WL.off rfl rfl rfl ?_ | refine WL.off0 rfl rfl ?_ | refine WC.exit ?_ | refine blk_hit ?_ | refine blk_miss rfl ?_ | refine WC.ret ?_)
    refine WL.nilC rfl rfl rfl ?_
    repeat (first | refine WC.seq ?_ | refine WC.reg ?_ | refine WL.pure rfl rfl rfl ?_ | refine WL.nil ?_ | refine WC.skip ?_ | refine WC.block ?_ | refine WC.condT rfl ?_ | refine WC.condF rfl ?_ | refine WL.off rfl rfl rfl ?_ | refine WL.off0 rfl rfl ?_ | refine WC.exit ?_ | refine blk_hit ?_ | refine blk_miss rfl ?_ | refine WC.ret ?_)
    refine WL.load rfl rfl rfl rfl rfl (cell_below hp1.below hpc) ?_
    refine WL.quo rfl rfl rfl rfl hne ?_
    refine WL.known (d := 20) (congrArg (fun z => some (Value.int .i64 z)) (wrap_div (hb _ (List.getElem_mem hi)))) ?_
    refine WL.buildS (cs := [.int .i64 (l[i] / pairs : Nat)]) rfl rfl rfl rfl rfl rfl rfl rfl rfl (fun b2 w2 h2 => ?_)
    have hp2 := hp1.new h2
    refine WL.append 1 hp2 rfl rfl rfl rfl rfl (by decide) rfl rfl rfl (news := [.int .i64 (l[i] / pairs : Nat)]) (Sl.of_obj (hp2.obj 0 rfl) (fun q u hq => by simpa using hq)) rfl (natL_cells [l[i] / pairs]) (by unfold maxLen; omega) (by show (i + 1) * 8 ≤ _; omega) ?_
    intro ra2 rc2 w3 hp3 hg3
    repeat (first | refine WC.seq ?_ | refine WC.reg ?_ | refine WL.pure rfl rfl rfl ?_ | refine WL.nil ?_ | refine WC.skip ?_ | refine WC.block ?_ | refine WC.condT rfl ?_ | refine WC.condF rfl ?_ | refine WL.off rfl rfl rfl ?_ | refine WL.off0 rfl rfl ?_ | refine WC.exit ?_ | refine blk_hit ?_ | refine blk_miss rfl ?_ | refine WC.ret ?_)
    refine ⟨(i + 1, ra2, rc2), (by show l.length - (i + 1) < l.length - i; omega), ⟨rfl, rfl, rfl, rfl, congrArg (fun z => some (Value.int .i64 z)) step, rfl⟩, hi, ?_⟩
    have e1 : natL ((l.take (i + 1)).map (· / pairs)) = natL ((l.take i).map (· / pairs)) ++ [.int .i64 (l[i] / pairs : Nat)] := by
      rw [List.take_succ_eq_append_getElem hi]
      unfold natL
      rw [List.map_append, List.map_append]
      rfl
    show Hp w w3 [Rna (.slice ra2 (i + 1) rc2) (i + 1) ((l.take (i + 1)).map (· / pairs))]
    unfold Rna
    rw [e1]
    exact hp3.tail
  · have hi : i = l.length := by have := of_decide_eq_false h1; omega
    subst hi
    rw [List.take_length] at hp1
    repeat (first | refine WC.seq ?_ | refine WC.reg ?_ | refine WL.pure rfl rfl rfl ?_ | refine WL.nil ?_ | refine WC.skip ?_ | refine WC.block ?_ | refine WC.condT rfl ?_ | refine WC.condF rfl ?_ | refine WL.off rfl rfl rfl ?_ | refine WL.off0 rfl rfl ?_ | refine WC.exit ?_ | refine blk_hit ?_ | refine blk_miss rfl ?_ | refine WC.ret ?_)
    exact Res.one rfl rfl rfl ⟨ra, rc, rfl, hp1⟩
theorem last_at {l : List Nat} (h : l ≠ []) : (natL l)[l.length - 1]? = some (.int .i64 (l.getLastD 0 : Nat)) := by
  unfold natL
  rw [List.getElem?_map, ← List.getLast?_eq_getElem?, List.getLastD_eq_getLast?]
  cases hq : l.getLast? with
  | none => exact absurd (List.getLast?_eq_none_iff.1 hq) h
  | some x => rfl
theorem last_mem {l : List Nat} (h : l ≠ []) : l.getLastD 0 ∈ l := by
  rw [List.getLastD_eq_getLast?, List.getLast?_eq_some_getLast h]
  exact List.getLast_mem h
theorem bl_get {l : List Bool} {i : Nat} (h : i < l.length) : (bl l)[i]? = some (.bool (l.getD i false)) := by simp [bl, h]
theorem kPut_spec {V : Type} {l : List (Int × Value)} {z : Value} {mkV : V → Value} {f : Nat → V} (h : ∀ c : Nat, (kGet l (c : Int)).getD z = mkV (f c)) (k : Nat) (x : V) : ∀ c : Nat, (kGet (kPut l (k : Int) (mkV x)) (c : Int)).getD z = mkV (if c = k then x else f c) := by
  intro c
  rw [kGet_put]
  by_cases hc : c = k
  · rw [if_pos (by omega), if_pos hc]; rfl
  · rw [if_neg (by omega), if_neg hc]; exact h c
/-- What a run is answered by. -/
def RunR (pairs : Nat) (r : Option (List Nat × List Nat)) (w : World) (u : Value) (w' : World) : Prop := match r with
  | none => u = .tuple #[.slice none 0 0, .slice none 0 0, .bool false] ∧ Hp w w' []
  | some (stem, loop) => ∃ sa sc pa pc, u = .tuple #[.slice sa stem.length sc, .slice pa loop.length pc, .bool true] ∧ Hp w w' [Rna (.slice pa loop.length pc) loop.length (loop.map (· / pairs)), Rna (.slice sa stem.length sc) stem.length (stem.map (· / pairs))]
abbrev rnE (b1 ob b6 b7 b8 b9 N : Nat) : Env := [(1, ptr b1), (5, sN ob N), (6, ptr b6), (7, ptr b7), (8, ptr b8), (9, ptr b9)]
abbrev rnL (b9 b8 b7 b6 tb fb cb N all : Nat) (TL FL : List (Int × Value)) (of_ : List Nat) : List Ent :=
  [.blk b9 (.cells #[.map (some tb)] 148 (0, 0)), .blk b8 (.cells #[.map (some fb)] 147 (0, 0)), .blk tb (mapO iKey TL), .blk fb (mapO iKey FL), .blk b7 (.cells #[.int .i64 (all : Nat)] 3 (0, 0)), .blk b6 (.cells #[sN cb N] 22 (0, 0)), cE cb of_]

theorem run_any (xb : Nat) (an : Option Addr) (cn : Nat) (rs : Nrs) (mk : Value) (starts : Nat) (la : Option Addr) (nl lc : Nat) (pairs N : Nat) (wa : Option Addr) (wc : Nat) (want : List Nat) (ta : Option Addr) (tc : Nat) (truth : List Bool) (fa : Option Addr) (fcap : Nat) (fair : List Nat) (w : World)
    (hx : w.heap[xb]? = some (Sxo (.slice an rs.length cn) mk starts (.slice la nl lc) pairs (.slice wa N wc) (.slice ta N tc) (.slice fa N fcap))) (hT : Tbl w an rs) (hW : Sl w wa (natL want)) (hTr : Sl w ta (bl truth)) (hFr : Sl w fa (natL fair))
    (hp0 : 0 < pairs) (hwl : want.length = N) (htl : truth.length = N) (hfl : fair.length = N) (hN : N = rs.length * pairs) (hrs : ∀ x ∈ rs, x.2.2.length ≤ 16) (hn : rs.length ≤ 16) (hpp : pairs ≤ 4096) (hpl : pairs = 2 ^ nl)
    (hwb : ∀ x ∈ want, x < 2 ^ 40) (hfb : ∀ x ∈ fair, x < 2 ^ 40) (hss : starts ≤ rs.length) (F G : Nat) (hF : F ≤ 1099511627776) (hG : G ≤ 1048576) (r : Option (List Nat × List Nat))
    (hM : runM F G (graphM (rsN rs) pairs want) pairs starts nl truth fair = some r) :
    Ret Tryd.prog 61 [ptr xb] w fun u w' => RunR pairs r w u w' := by
  have hNb : N ≤ 65536 := by rw [hN]; exact Nat.le_trans (Nat.mul_le_mul hn hpp) (by decide)
  have hps : pairs * starts ≤ N := by rw [hN, Nat.mul_comm]; exact Nat.mul_le_mul_right _ hss
  have hnl : nl ≤ 12 := by
    rcases Nat.lt_or_ge 12 nl with h | h
    · have := Nat.pow_le_pow_right (n := 2) (by decide) h
      have h13 : 2 ^ (12 + 1) = 8192 := by decide
      rw [hpl] at hpp
      omega
    · exact h
  refine enter Tryd.func61 rfl rfl ⟨rfl, rfl⟩ rfl ?_
  repeat (first | refine WC.seq ?_ | refine WC.reg ?_ | refine WL.pure rfl rfl rfl ?_ | refine WL.nil ?_ | refine WC.skip ?_ | refine WC.block ?_ | refine WC.condT rfl ?_ | refine WC.condF rfl ?_ | refine WL.off rfl rfl rfl ?_ | refine WL.off0 rfl rfl ?_ | refine WC.exit ?_ | refine blk_hit ?_ | refine blk_miss rfl ?_ | refine WC.ret ?_)
  refine WL.box rfl rfl rfl (fun b1 w1 h1 => ?_)
  have hp1 : Hp w w1 [.blk b1 (.cells #[ptr xb] 111 (0, 0))] := (Hp.start w).new h1
  have hxl : xb < w.heap.size := (Array.getElem?_eq_some_iff.1 hx).1
  repeat (first | refine WC.seq ?_ | refine WC.reg ?_ | refine WL.pure rfl rfl rfl ?_ | refine WL.nil ?_ | refine WC.skip ?_ | refine WC.block ?_ | refine WC.condT rfl ?_ | refine WC.condF rfl ?_ | refine WL.off rfl rfl rfl ?_ | refine WL.off0 rfl rfl ?_ | refine WC.exit ?_ | refine blk_hit ?_ | refine blk_miss rfl ?_ | refine WC.ret ?_)
  refine WL.loadB rfl rfl rfl rfl rfl (hp1.obj 0 rfl) (j := 0) rfl ?_
  refine WL.call rfl rfl rfl rfl rfl ent87 (graph_any xb an cn rs mk starts _ pairs wa wc want _ _ w1 (by rw [hp1.below.block xb hxl, hwl]; exact hx) (hT.hp hp1) (hW.hp hp1) hp0 (by rw [hwl]; exact hN) hrs hn hpp hwb) ?_
  rintro _ w2 ⟨ob, R, rfl, hRl, hRn, hp2, hTR⟩
  rw [hwl] at hRl
  have hpW := hp1.call hp2.below
  have hbW := hpW.below
  have hx2 : w2.heap[xb]? = some (Sxo (.slice an rs.length cn) mk starts (.slice la nl lc) pairs (.slice wa N wc) (.slice ta N tc) (.slice fa N fcap)) := by rw [hbW.block xb hxl]; exact hx
  have hTr2 := hTr.hp hpW
  have hFr2 := hFr.hp hpW
  have hc1 : w2.cell? ⟨b1, 0, none⟩ = some (ptr xb) := cell_of_obj (hpW.obj 0 rfl) rfl
  have hc3 : w2.cell? ⟨xb, 3, none⟩ = some (.slice la nl lc) := cell_of_obj (j := 3) hx2 rfl
  have hc2 : w2.cell? ⟨xb, 2, none⟩ = some (.int .i64 (starts : Nat)) := cell_of_obj (j := 2) hx2 rfl
  have hc4 : w2.cell? ⟨xb, 4, none⟩ = some (.int .i64 (pairs : Nat)) := cell_of_obj (j := 4) hx2 rfl
  have hc6 : w2.cell? ⟨xb, 6, none⟩ = some (.slice ta N tc) := cell_of_obj (j := 6) hx2 rfl
  have hc7 : w2.cell? ⟨xb, 7, none⟩ = some (.slice fa N fcap) := cell_of_obj (j := 7) hx2 rfl
  clear hp2 hp1 h1 hT hW hTr hFr
  rw [hRl]
  have hrow2 : ∀ x ∈ R, (∀ u ∈ x.2.2, u < N) ∧ x.2.2.length ≤ 1048576 := by
    intro x hxR
    have h1 : x.2.2 ∈ graphM (rsN rs) pairs want := by rw [← hRn]; exact List.mem_map.2 ⟨x, hxR, rfl⟩
    have h2 := graph_row (fun r hr => by
      obtain ⟨y, hy, rfl⟩ := List.mem_map.1 hr
      exact hrs y hy) h1
    rw [hwl] at h2
    exact ⟨h2.1, by omega⟩
  rw [← hRn] at hM
  clear hRn
  have hrin : ∀ x ∈ R, ∀ u ∈ x.2.2, u < N := fun x h => (hrow2 x h).1
  have hrlen : ∀ x ∈ R, x.2.2.length ≤ 1048576 := fun x h => (hrow2 x h).2
  have hnext : ∀ v, ∀ u ∈ (rsN R).getD v [], u < N := by
    intro v u hu
    rcases Nat.lt_or_ge v R.length with h | h
    · rw [rsN_at h] at hu
      exact hrin _ (List.getElem_mem h) u hu
    · rw [List.getD_eq_getElem?_getD, List.getElem?_eq_none (by rw [rsN_len]; exact h)] at hu
      cases hu
  unfold runM at hM
  cases hcm : compM F (rsN R) with
  | none => rw [hcm] at hM; cases hM
  | some of_ =>
  rw [hcm] at hM
  simp only at hM
  repeat (first | refine WC.seq ?_ | refine WC.reg ?_ | refine WL.pure rfl rfl rfl ?_ | refine WL.nil ?_ | refine WC.skip ?_ | refine WC.block ?_ | refine WC.condT rfl ?_ | refine WC.condF rfl ?_ | refine WL.off rfl rfl rfl ?_ | refine WL.off0 rfl rfl ?_ | refine WC.exit ?_ | refine blk_hit ?_ | refine blk_miss rfl ?_ | refine WC.ret ?_)
  refine WL.call rfl rfl rfl rfl rfl ent88 (components_any (some ⟨ob, 0, none⟩) N N R w2 hRl hTR hNb hrlen hrin F hF of_ hcm) ?_
  rintro _ w3 ⟨cb, rfl, hofl, hp3⟩
  refine WL.alloc rfl rfl rfl (fun b6 w4 h4 => ?_)
  have hp4 := hp3.new h4
  refine WL.store rfl rfl rfl rfl rfl rfl (hp4.obj 0 rfl) (Nat.lt_succ_self 0) (fun w5 h5 => ?_)
  have hp5 : Hp w2 w5 [.blk b6 (.cells #[sN cb N] 22 (0, 0)), cE cb of_] := hp4.set 0 rfl rfl h5
  clear hp4 hp3
  have e35 : shl .i64 1 nl = ((2 ^ nl : Nat) : Int) := shl_one (by omega)
  obtain ⟨all, hall⟩ : ∃ all, all = 2 ^ nl - 1 := ⟨_, rfl⟩
  have hallb : all < 2 ^ 40 := by rw [hall, ← hpl]; omega
  have hpos : 0 < 2 ^ nl := Nat.two_pow_pos nl
  have e36 : IntKind.i64.wrap (((2 ^ nl : Nat) : Int) - 1) = ((all : Nat) : Int) := by rw [hall, ← hpl, wrap_mid (by omega) (by omega)]; omega
  rw [← hall] at hM
  repeat (first | refine WC.seq ?_ | refine WC.reg ?_ | refine WL.pure rfl rfl rfl ?_ | refine WL.nil ?_ | refine WC.skip ?_ | refine WC.block ?_ | refine WC.condT rfl ?_ | refine WC.condF rfl ?_ | refine WL.off rfl rfl rfl ?_ | refine WL.off0 rfl rfl ?_ | refine WC.exit ?_ | refine blk_hit ?_ | refine blk_miss rfl ?_ | refine WC.ret ?_)
  refine WL.load rfl rfl rfl rfl rfl (cell_below hp5.below hc1) ?_
  refine WL.nilC rfl rfl rfl ?_
  repeat (first | refine WC.seq ?_ | refine WC.reg ?_ | refine WL.pure rfl rfl rfl ?_ | refine WL.nil ?_ | refine WC.skip ?_ | refine WC.block ?_ | refine WC.condT rfl ?_ | refine WC.condF rfl ?_ | refine WL.off rfl rfl rfl ?_ | refine WL.off0 rfl rfl ?_ | refine WC.exit ?_ | refine blk_hit ?_ | refine blk_miss rfl ?_ | refine WC.ret ?_)
  refine WL.load rfl rfl rfl rfl rfl (cell_below hp5.below hc3) ?_
  refine WL.pure rfl rfl rfl ?_
  refine WL.pure rfl rfl rfl ?_
  refine WL.known (d := 35) (congrArg (fun z => some (Value.int .i64 z)) e35) ?_
  refine WL.pure rfl rfl rfl ?_
  refine WL.known (d := 36) (congrArg (fun z => some (Value.int .i64 z)) e36) ?_
  refine WL.alloc rfl rfl rfl (fun b7 w6 h6 => ?_)
  have hp6 := hp5.new h6
  refine WL.store rfl rfl rfl rfl rfl rfl (hp6.obj 0 rfl) (Nat.lt_succ_self 0) (fun w7 h7 => ?_)
  have hp7 : Hp w2 w7 [.blk b7 (.cells #[.int .i64 (all : Nat)] 3 (0, 0)), .blk b6 (.cells #[sN cb N] 22 (0, 0)), cE cb of_] := hp6.set 0 rfl rfl h7
  clear hp6 hp5
  repeat (first | refine WC.seq ?_ | refine WC.reg ?_ | refine WL.pure rfl rfl rfl ?_ | refine WL.nil ?_ | refine WC.skip ?_ | refine WC.block ?_ | refine WC.condT rfl ?_ | refine WC.condF rfl ?_ | refine WL.off rfl rfl rfl ?_ | refine WL.off0 rfl rfl ?_ | refine WC.exit ?_ | refine blk_hit ?_ | refine blk_miss rfl ?_ | refine WC.ret ?_)
  refine WL.makeMap rfl rfl ?_
  intro fb w8 h8
  have hp8 := hp7.new h8
  refine WL.makeMap rfl rfl ?_
  intro tb w9 h9
  have hp9 := hp8.new h9
  refine WL.alloc rfl rfl rfl (fun b8 w10 h10 => ?_)
  have hp10 := hp9.new h10
  refine WL.alloc rfl rfl rfl (fun b9 w11 h11 => ?_)
  have hp11 := hp10.new h11
  refine WL.store rfl rfl rfl rfl rfl rfl (hp11.obj 1 rfl) (Nat.lt_succ_self 0) (fun w12 h12 => ?_)
  have hp12 := hp11.set 1 rfl rfl h12
  refine WL.store rfl rfl rfl rfl rfl rfl (hp12.obj 0 rfl) (Nat.lt_succ_self 0) (fun w13 h13 => ?_)
  have hp13 : Hp w2 w13 (rnL b9 b8 b7 b6 tb fb cb N all [] [] of_) := hp12.set 0 rfl rfl h13
  clear hp12 hp11 hp10 hp9 hp8 hp7
  repeat (first | refine WC.seq ?_ | refine WC.reg ?_ | refine WL.pure rfl rfl rfl ?_ | refine WL.nil ?_ | refine WC.skip ?_ | refine WC.block ?_ | refine WC.condT rfl ?_ | refine WC.condF rfl ?_ | refine WL.off rfl rfl rfl ?_ | refine WL.off0 rfl rfl ?_ | refine WC.exit ?_ | refine blk_hit ?_ | refine blk_miss rfl ?_ | refine WC.ret ?_)
  refine WC.loop (Nat × List (Int × Value) × List (Int × Value)) (fun (m, TL, FL) => [(39, sN ob N), (40, .int .i64 (N : Nat)), (41, .int .i64 (m : Nat))] ++ rnE b1 ob b6 b7 b8 b9 N)
    (fun (m, TL, FL) w' => m ≤ N ∧ (∀ c : Nat, (kGet TL (c : Int)).getD (.bool false) = .bool (turnC of_ (rsN R) m c)) ∧ (∀ c : Nat, (kGet FL (c : Int)).getD (.int .i64 0) = .int .i64 (fairC of_ fair m c : Nat)) ∧ Hp w2 w' (rnL b9 b8 b7 b6 tb fb cb N all TL FL of_)) (fun (m, _) => N - m) (0, [], []) ⟨rfl, rfl, rfl, rfl, rfl, rfl, rfl, rfl, rfl, rfl⟩ ⟨Nat.zero_le _, fun c => rfl, fun c => rfl, hp13⟩ ?_
  clear hp13
  rintro ⟨m, TL, FL⟩ w14 ⟨hm, hTL, hFL, hp14⟩
  replace hm : m ≤ N := hm
  replace hTL : ∀ c : Nat, (kGet TL (c : Int)).getD (.bool false) = .bool (turnC of_ (rsN R) m c) := hTL
  replace hFL : ∀ c : Nat, (kGet FL (c : Int)).getD (.int .i64 0) = .int .i64 (fairC of_ fair m c : Nat) := hFL
  replace hp14 : Hp w2 w14 (rnL b9 b8 b7 b6 tb fb cb N all TL FL of_) := hp14
  repeat (first | refine WC.seq ?_ | refine WC.reg ?_ | refine WL.pure rfl rfl rfl ?_ | refine WL.nil ?_ | refine WC.skip ?_ | refine WC.block ?_ | refine WC.condT rfl ?_ | refine WC.condF rfl ?_ | refine WL.off rfl rfl rfl ?_ | refine WL.off0 rfl rfl ?_ | refine WC.exit ?_ | refine blk_hit ?_ | refine blk_miss rfl ?_ | refine WC.ret ?_)
  refine WC.cond rfl (fun c1 => ?_) (fun c1 => ?_)
  · have hm : m < N := by have h : ((m : Nat) : Int) < ((N : Nat) : Int) := of_decide_eq_true c1; omega
    have step := wrap_succ (i := m) (n := m + 1) (by omega) (by omega)
    have hmR : m < R.length := by omega
    have hmin := hrin _ (List.getElem_mem hmR)
    have hmlen := hrlen _ (List.getElem_mem hmR)
    have hmsl := hTR.rows _ (List.getElem_mem hmR)
    have hmat := rsV_at hmR
    have hmN := rsN_at hmR
    have htab := hTR.tab
    generalize R[m] = x at *
    obtain ⟨ra, rc, row⟩ := x
    simp only at hmin hmlen hmsl hmat hmN
    have hfv := getD_lt40 hfb m
    have hfc := fairC_lt (of_ := of_) hfb (of_.getD m 0) m
    have eor : bits .or .i64 ((fairC of_ fair m (of_.getD m 0) : Nat) : Int) ((fair.getD m 0 : Nat) : Int) = ((fairC of_ fair m (of_.getD m 0) ||| fair.getD m 0 : Nat) : Int) := or_i64 (by omega) (by omega)
    repeat (first | refine WC.seq ?_ | refine WC.reg ?_ | refine WL.pure rfl rfl rfl ?_ | refine WL.nil ?_ | refine WC.skip ?_ | refine WC.block ?_ | refine WC.condT rfl ?_ | refine WC.condF rfl ?_ | refine WL.off rfl rfl rfl ?_ | refine WL.off0 rfl rfl ?_ | refine WC.exit ?_ | refine blk_hit ?_ | refine blk_miss rfl ?_ | refine WC.ret ?_)
    refine WL.ixload rfl (fun _ => rfl) rfl rfl rfl rfl rfl rfl rfl hm rfl rfl (htab.hp hp14) hmat ?_
    intro q
    repeat (first | refine WC.seq ?_ | refine WC.reg ?_ | refine WL.pure rfl rfl rfl ?_ | refine WL.nil ?_ | refine WC.skip ?_ | refine WC.block ?_ | refine WC.condT rfl ?_ | refine WC.condF rfl ?_ | refine WL.off rfl rfl rfl ?_ | refine WL.off0 rfl rfl ?_ | refine WC.exit ?_ | refine blk_hit ?_ | refine blk_miss rfl ?_ | refine WC.ret ?_)
    refine WC.mid (List (Int × Value)) (fun FL => [(10, .int .i64 (m : Nat)), (11, .slice ra row.length rc), (39, sN ob N), (40, .int .i64 (N : Nat)), (41, .int .i64 (m : Nat))] ++ rnE b1 ob b6 b7 b8 b9 N)
      (fun FL w' => (∀ c : Nat, (kGet FL (c : Int)).getD (.int .i64 0) = .int .i64 (fairC of_ fair (m + 1) c : Nat)) ∧ Hp w2 w' (rnL b9 b8 b7 b6 tb fb cb N all TL FL of_)) ?_ ?_
    · refine WC.regS 14 mixed (by kernel_rfl) rfl rfl (fun w15 hw15 hh15 => ?_)
      have hp15 := hp14.keep hw15
      refine WS.loadB rfl rfl rfl rfl rfl (hp15.obj 1 rfl) (j := 0) rfl ?_
      refine WS.loadB rfl rfl rfl rfl rfl (hp15.obj 5 rfl) (j := 0) rfl ?_
      repeat (first | refine WS.pure rfl rfl rfl ?_ | refine WS.off rfl rfl rfl ?_ | refine WS.nil ?_)
      refine WS.ix1 rfl rfl rfl rfl rfl rfl rfl hm ?_
      refine WS.load rfl rfl rfl rfl rfl (Sl.cell (cE_sl hp15 6 rfl) (nd hofl hm)) ?_
      refine WS.val rfl rfl (yLookM (k := ((of_.getD m 0 : Nat) : Int)) (l := FL) (c := false) (keyT_int rfl) rfl rfl rfl rfl (hp15.obj 3 rfl)) ?_
      rw [show lkM FL ((of_.getD m 0 : Nat) : Int) ti3.zero false = Value.int .i64 (fairC of_ fair m (of_.getD m 0) : Nat) from hFL _]
      refine WS.load rfl rfl rfl rfl rfl (cell_below hp15.below hc1) ?_
      refine WS.val rfl rfl (yNil rfl) ?_
      repeat (first | refine WS.pure rfl rfl rfl ?_ | refine WS.off rfl rfl rfl ?_ | refine WS.nil ?_)
      refine WS.load rfl rfl rfl rfl rfl (cell_below hp15.below hc7) ?_
      repeat (first | refine WS.pure rfl rfl rfl ?_ | refine WS.off rfl rfl rfl ?_ | refine WS.nil ?_)
      obtain ⟨fb2, fo2, hfae, hfcell⟩ := hFr2 _ _ (nd hfl hm)
      subst hfae
      refine WS.ix1 rfl rfl rfl rfl rfl rfl rfl hm ?_
      refine WS.load rfl rfl rfl rfl rfl (cell_below hp15.below hfcell) ?_
      refine WS.pure rfl rfl rfl ?_
      refine WS.known (d := 59) (congrArg (fun z => some (Value.int .i64 z)) eor) ?_
      repeat (first | refine WS.pure rfl rfl rfl ?_ | refine WS.off rfl rfl rfl ?_ | refine WS.nil ?_)
      refine WL.skip rfl rfl (yMapSet (k := ((of_.getD m 0 : Nat) : Int)) (l := FL) (v := .int .i64 (fairC of_ fair m (of_.getD m 0) ||| fair.getD m 0 : Nat)) (keyT_int rfl) rfl rfl rfl rfl (hp15.obj 3 rfl)) ?_
      have hp16 := hp15.set 3 rfl rfl (setB_put (hp15.obj 3 rfl) (o' := mapO iKey (kPut FL ((of_.getD m 0 : Nat) : Int) (.int .i64 (fairC of_ fair m (of_.getD m 0) ||| fair.getD m 0 : Nat)))))
      refine WL.nil ⟨kPut FL ((of_.getD m 0 : Nat) : Int) (.int .i64 (fairC of_ fair m (of_.getD m 0) ||| fair.getD m 0 : Nat)), ⟨rfl, rfl, rfl, rfl, rfl, rfl, rfl, rfl, rfl, rfl, rfl, rfl⟩, ?_, hp16⟩
      intro c
      have := kPut_spec (mkV := fun (n : Nat) => Value.int .i64 (n : Nat)) hFL (of_.getD m 0) (fairC of_ fair m (of_.getD m 0) ||| fair.getD m 0) c
      rw [this]
      show Value.int .i64 _ = Value.int .i64 ((fairC of_ fair (m + 1) c : Nat) : Int)
      congr 2
      conv => rhs; unfold fairC
      by_cases hc : c = of_.getD m 0
      · rw [if_pos hc, if_pos hc.symm, hc]
      · rw [if_neg hc, if_neg (fun h => hc h.symm)]
    rintro FL e15 w15 hsub ⟨hFL, hp15⟩
    refine WC.sub hsub ?_
    clear hsub e15 hp14
    replace hp15 : Hp w2 w15 (rnL b9 b8 b7 b6 tb fb cb N all TL FL of_) := hp15
    repeat (first | refine WC.seq ?_ | refine WC.reg ?_ | refine WL.pure rfl rfl rfl ?_ | refine WL.nil ?_ | refine WC.skip ?_ | refine WC.block ?_ | refine WC.condT rfl ?_ | refine WC.condF rfl ?_ | refine WL.off rfl rfl rfl ?_ | refine WL.off0 rfl rfl ?_ | refine WC.exit ?_ | refine blk_hit ?_ | refine blk_miss rfl ?_ | refine WC.ret ?_)
    refine WC.loop (Nat × List (Int × Value)) (fun (j, TL) => [(10, .int .i64 (m : Nat)), (39, sN ob N), (40, .int .i64 (N : Nat)), (41, .int .i64 (m : Nat)), (60, .slice ra row.length rc), (61, .int .i64 (row.length : Nat)), (62, .int .i64 (j : Nat))] ++ rnE b1 ob b6 b7 b8 b9 N)
      (fun (j, TL) w' => j ≤ row.length ∧ (∀ c : Nat, (kGet TL (c : Int)).getD (.bool false) = .bool (turnP of_ (rsN R) m j c)) ∧ Hp w2 w' (rnL b9 b8 b7 b6 tb fb cb N all TL FL of_)) (fun (j, _) => row.length - j) (0, TL) ⟨rfl, rfl, rfl, rfl, rfl, rfl, rfl, rfl, rfl, rfl, rfl, rfl, rfl, rfl⟩ ⟨Nat.zero_le _, fun c => by rw [hTL, turnP_zero], hp15⟩ ?_
    clear hp15 hTL
    rintro ⟨j, TL⟩ w16 ⟨hj, hTL, hp16⟩
    replace hj : j ≤ row.length := hj
    replace hTL : ∀ c : Nat, (kGet TL (c : Int)).getD (.bool false) = .bool (turnP of_ (rsN R) m j c) := hTL
    replace hp16 : Hp w2 w16 (rnL b9 b8 b7 b6 tb fb cb N all TL FL of_) := hp16
    repeat (first | refine WC.seq ?_ | refine WC.reg ?_ | refine WL.pure rfl rfl rfl ?_ | refine WL.nil ?_ | refine WC.skip ?_ | refine WC.block ?_ | refine WC.condT rfl ?_ | refine WC.condF rfl ?_ | refine WL.off rfl rfl rfl ?_ | refine WL.off0 rfl rfl ?_ | refine WC.exit ?_ | refine blk_hit ?_ | refine blk_miss rfl ?_ | refine WC.ret ?_)
    refine WC.cond rfl (fun c2 => ?_) (fun c2 => ?_)
    · have hj : j < row.length := by have h : ((j : Nat) : Int) < ((row.length : Nat) : Int) := of_decide_eq_true c2; omega
      have stepj := wrap_succ (i := j) (n := j + 1) (by omega) (by omega)
      obtain ⟨u, hu⟩ : ∃ u, u = row[j] := ⟨_, rfl⟩
      have huN : u < N := by rw [hu]; exact hmin _ (List.getElem_mem hj)
      have htp : ∀ c, turnP of_ (rsN R) m (j + 1) c = if c = of_.getD m 0 then turnP of_ (rsN R) m j (of_.getD m 0) || decide (of_.getD u 0 = of_.getD m 0) else turnP of_ (rsN R) m j c := by
        intro c
        rw [turnP_succ of_ (rsN R) m j c u (by rw [hmN, hu]; simp [hj])]
        by_cases hc : c = of_.getD m 0
        · rw [if_pos hc, if_pos hc, hc]
        · rw [if_neg hc, if_neg hc]
      have hTLm := hTL (of_.getD m 0)
      generalize turnP of_ (rsN R) m j (of_.getD m 0) = tq at *
      repeat (first | refine WC.seq ?_ | refine WC.reg ?_ | refine WL.pure rfl rfl rfl ?_ | refine WL.nil ?_ | refine WC.skip ?_ | refine WC.block ?_ | refine WC.condT rfl ?_ | refine WC.condF rfl ?_ | refine WL.off rfl rfl rfl ?_ | refine WL.off0 rfl rfl ?_ | refine WC.exit ?_ | refine blk_hit ?_ | refine blk_miss rfl ?_ | refine WC.ret ?_)
      refine WL.ixload rfl (fun _ => rfl) rfl rfl rfl rfl rfl rfl rfl hj rfl rfl (hmsl.hp hp16) (natL_at hj) ?_
      intro q2
      rw [← hu]
      repeat (first | refine WC.seq ?_ | refine WC.reg ?_ | refine WL.pure rfl rfl rfl ?_ | refine WL.nil ?_ | refine WC.skip ?_ | refine WC.block ?_ | refine WC.condT rfl ?_ | refine WC.condF rfl ?_ | refine WL.off rfl rfl rfl ?_ | refine WL.off0 rfl rfl ?_ | refine WC.exit ?_ | refine blk_hit ?_ | refine blk_miss rfl ?_ | refine WC.ret ?_)
      refine WC.mid (List (Int × Value)) (fun TL => [(10, .int .i64 (m : Nat)), (39, sN ob N), (40, .int .i64 (N : Nat)), (41, .int .i64 (m : Nat)), (60, .slice ra row.length rc), (61, .int .i64 (row.length : Nat)), (62, .int .i64 (j : Nat))] ++ rnE b1 ob b6 b7 b8 b9 N)
        (fun TL w' => (∀ c : Nat, (kGet TL (c : Int)).getD (.bool false) = .bool (turnP of_ (rsN R) m (j + 1) c)) ∧ Hp w2 w' (rnL b9 b8 b7 b6 tb fb cb N all TL FL of_)) ?_ ?_
      · have fin : ∀ (b : Bool) (w17 : World), b = (tq || decide (of_.getD u 0 = of_.getD m 0)) → Hp w2 w17 (rnL b9 b8 b7 b6 tb fb cb N all TL FL of_) → (∀ c : Nat, (kGet (kPut TL ((of_.getD m 0 : Nat) : Int) (.bool b)) (c : Int)).getD (.bool false) = .bool (turnP of_ (rsN R) m (j + 1) c)) := by
          intro b w17 hb hp17 c
          rw [kPut_spec (mkV := Value.bool) hTL (of_.getD m 0) b c, htp]
          by_cases hc : c = of_.getD m 0
          · rw [if_pos hc, if_pos hc, hb]
          · rw [if_neg hc, if_neg hc]
        refine WC.regS 22 mixed (by kernel_rfl) rfl rfl (fun w17 hw17 hh17 => ?_)
        have hp17 := hp16.keep hw17
        refine WS.loadB rfl rfl rfl rfl rfl (hp17.obj 0 rfl) (j := 0) rfl ?_
        refine WS.loadB rfl rfl rfl rfl rfl (hp17.obj 5 rfl) (j := 0) rfl ?_
        repeat (first | refine WS.pure rfl rfl rfl ?_ | refine WS.off rfl rfl rfl ?_ | refine WS.nil ?_)
        refine WS.ix1 rfl rfl rfl rfl rfl rfl rfl hm ?_
        refine WS.load rfl rfl rfl rfl rfl (Sl.cell (cE_sl hp17 6 rfl) (nd hofl hm)) ?_
        refine WS.loadB rfl rfl rfl rfl rfl (hp17.obj 0 rfl) (j := 0) rfl ?_
        refine WS.loadB rfl rfl rfl rfl rfl (hp17.obj 5 rfl) (j := 0) rfl ?_
        repeat (first | refine WS.pure rfl rfl rfl ?_ | refine WS.off rfl rfl rfl ?_ | refine WS.nil ?_)
        refine WS.ix1 rfl rfl rfl rfl rfl rfl rfl hm ?_
        refine WS.load rfl rfl rfl rfl rfl (Sl.cell (cE_sl hp17 6 rfl) (nd hofl hm)) ?_
        refine WS.val rfl rfl (yLookM (k := ((of_.getD m 0 : Nat) : Int)) (l := TL) (c := false) (keyT_int rfl) rfl rfl rfl rfl (hp17.obj 2 rfl)) ?_
        rw [show lkM TL ((of_.getD m 0 : Nat) : Int) ti4.zero false = Value.bool tq from hTLm]
        refine WS.pure rfl rfl rfl ?_
        refine WS.split 77 rfl (fun c3 => ?_) (fun c3 => ?_)
        · rw [c3, Bool.true_or] at fin
          repeat (first | refine WS.pure rfl rfl rfl ?_ | refine WS.off rfl rfl rfl ?_ | refine WS.nil ?_)
          refine WL.skip rfl rfl (yMapSet (k := ((of_.getD m 0 : Nat) : Int)) (l := TL) (v := .bool true) (keyT_int rfl) rfl rfl rfl rfl (hp17.obj 2 rfl)) ?_
          have hp18 := hp17.set 2 rfl rfl (setB_put (hp17.obj 2 rfl) (o' := mapO iKey (kPut TL ((of_.getD m 0 : Nat) : Int) (.bool true))))
          exact WL.nil ⟨kPut TL ((of_.getD m 0 : Nat) : Int) (.bool true), ⟨rfl, rfl, rfl, rfl, rfl, rfl, rfl, rfl, rfl, rfl, rfl, rfl, rfl, rfl⟩, fin true w17 rfl hp17, hp18⟩
        · rw [c3, Bool.false_or] at fin
          refine WS.loadB rfl rfl rfl rfl rfl (hp17.obj 5 rfl) (j := 0) rfl ?_
          repeat (first | refine WS.pure rfl rfl rfl ?_ | refine WS.off rfl rfl rfl ?_ | refine WS.nil ?_)
          refine WS.ix1 rfl rfl rfl rfl rfl rfl rfl huN ?_
          refine WS.load rfl rfl rfl rfl rfl (Sl.cell (cE_sl hp17 6 rfl) (nd hofl huN)) ?_
          refine WS.loadB rfl rfl rfl rfl rfl (hp17.obj 5 rfl) (j := 0) rfl ?_
          repeat (first | refine WS.pure rfl rfl rfl ?_ | refine WS.off rfl rfl rfl ?_ | refine WS.nil ?_)
          refine WS.ix1 rfl rfl rfl rfl rfl rfl rfl hm ?_
          refine WS.load rfl rfl rfl rfl rfl (Sl.cell (cE_sl hp17 6 rfl) (nd hofl hm)) ?_
          repeat (first | refine WS.pure rfl rfl rfl ?_ | refine WS.off rfl rfl rfl ?_ | refine WS.nil ?_)
          have ed : (((of_.getD u 0 : Nat) : Int) == ((of_.getD m 0 : Nat) : Int)) = decide (of_.getD u 0 = of_.getD m 0) := by
            rw [Bool.eq_iff_iff, beq_iff_eq, decide_eq_true_iff]; exact Int.ofNat_inj
          refine WL.skip rfl rfl (yMapSet (k := ((of_.getD m 0 : Nat) : Int)) (l := TL) (v := .bool (((of_.getD u 0 : Nat) : Int) == ((of_.getD m 0 : Nat) : Int))) (keyT_int rfl) rfl rfl rfl rfl (hp17.obj 2 rfl)) ?_
          have hp18 := hp17.set 2 rfl rfl (setB_put (hp17.obj 2 rfl) (o' := mapO iKey (kPut TL ((of_.getD m 0 : Nat) : Int) (.bool (((of_.getD u 0 : Nat) : Int) == ((of_.getD m 0 : Nat) : Int))))))
          exact WL.nil ⟨kPut TL ((of_.getD m 0 : Nat) : Int) (.bool (((of_.getD u 0 : Nat) : Int) == ((of_.getD m 0 : Nat) : Int))), ⟨rfl, rfl, rfl, rfl, rfl, rfl, rfl, rfl, rfl, rfl, rfl, rfl, rfl, rfl⟩, fin _ w17 ed hp17, hp18⟩
      · rintro TL e17 w17 hsub ⟨hTL, hp17⟩
        refine WC.sub hsub ?_
        repeat (first | refine WC.seq ?_ | refine WC.reg ?_ | refine WL.pure rfl rfl rfl ?_ | refine WL.nil ?_ | refine WC.skip ?_ | refine WC.block ?_ | refine WC.condT rfl ?_ | refine WC.condF rfl ?_ | refine WL.off rfl rfl rfl ?_ | refine WL.off0 rfl rfl ?_ | refine WC.exit ?_ | refine blk_hit ?_ | refine blk_miss rfl ?_ | refine WC.ret ?_)
        exact ⟨(j + 1, TL), (by show row.length - (j + 1) < row.length - j; omega), ⟨rfl, rfl, rfl, rfl, rfl, rfl, congrArg (fun z => some (Value.int .i64 z)) stepj, rfl, rfl, rfl, rfl, rfl, rfl, rfl⟩, hj, hTL, hp17⟩
    · have hj : j = row.length := by have h : ¬ ((j : Nat) : Int) < ((row.length : Nat) : Int) := of_decide_eq_false c2; omega
      subst hj
      repeat (first | refine WC.seq ?_ | refine WC.reg ?_ | refine WL.pure rfl rfl rfl ?_ | refine WL.nil ?_ | refine WC.skip ?_ | refine WC.block ?_ | refine WC.condT rfl ?_ | refine WC.condF rfl ?_ | refine WL.off rfl rfl rfl ?_ | refine WL.off0 rfl rfl ?_ | refine WC.exit ?_ | refine blk_hit ?_ | refine blk_miss rfl ?_ | refine WC.ret ?_)
      exact ⟨(m + 1, TL, FL), (by show N - (m + 1) < N - m; omega), ⟨rfl, rfl, congrArg (fun z => some (Value.int .i64 z)) step, rfl, rfl, rfl, rfl, rfl, rfl, rfl⟩, hm, fun c => by rw [hTL, turnP_all]; rw [hmN]; exact Nat.le_refl _, hFL, hp16⟩
  · have hm : m = N := by have h : ¬ ((m : Nat) : Int) < ((N : Nat) : Int) := of_decide_eq_false c1; omega
    subst hm
    obtain ⟨N, hNN⟩ : ∃ N, N = m := ⟨_, rfl⟩
    have hNR : (rsN R).length = m := by rw [rsN_len]; exact hRl
    have e98 : IntKind.i64.wrap (((pairs : Nat) : Int) * ((starts : Nat) : Int)) = ((pairs * starts : Nat) : Int) := by
      rw [Int.natCast_mul, wrap_mid (by rw [← Int.natCast_mul]; omega) (by rw [← Int.natCast_mul]; omega)]
    have hbg : ∀ i, ((List.range (i + 1)).filter fun v => truth.getD v false) = ((List.range i).filter fun v => truth.getD v false) ++ if truth.getD i false = true then [i] else [] := by
      intro i
      rw [List.range_succ, List.filter_append]
      congr 1
      rw [List.filter_cons]
      rfl
    have hbl : ∀ i, ((List.range i).filter fun v => truth.getD v false).length ≤ i := by
      intro i
      have := List.length_filter_le (fun v => truth.getD v false) (List.range i)
      rwa [List.length_range] at this
    repeat (first | refine WC.seq ?_ | refine WC.reg ?_ | refine WL.pure rfl rfl rfl ?_ | refine WL.nil ?_ | refine WC.skip ?_ | refine WC.block ?_ | refine WC.condT rfl ?_ | refine WC.condF rfl ?_ | refine WL.off rfl rfl rfl ?_ | refine WL.off0 rfl rfl ?_ | refine WC.exit ?_ | refine blk_hit ?_ | refine blk_miss rfl ?_ | refine WC.ret ?_)
    refine WC.regQ (fun w' => Hp w2 w' (rnL b9 b8 b7 b6 tb fb cb m all TL FL of_)) mixed (by kernel_rfl) (fun w' hw' => hp14.keep hw') ?_
    refine WQ.load rfl rfl rfl rfl rfl (fun w' h => cell_below h.below hc1) ?_
    refine WQ.nilC rfl rfl rfl ?_
    repeat (first | refine WQ.pure rfl rfl rfl ?_ | refine WQ.off rfl rfl rfl ?_ | refine WQ.nil ?_)
    refine WQ.load rfl rfl rfl rfl rfl (fun w' h => cell_below h.below hc4) ?_
    refine WQ.load rfl rfl rfl rfl rfl (fun w' h => cell_below h.below hc1) ?_
    refine WQ.nilC rfl rfl rfl ?_
    repeat (first | refine WQ.pure rfl rfl rfl ?_ | refine WQ.off rfl rfl rfl ?_ | refine WQ.nil ?_)
    refine WQ.load rfl rfl rfl rfl rfl (fun w' h => cell_below h.below hc2) ?_
    refine WQ.pure rfl rfl rfl ?_
    refine WQ.known (d := 98) (congrArg (fun z => some (Value.int .i64 z)) e98) ?_
    repeat (first | refine WQ.pure rfl rfl rfl ?_ | refine WQ.off rfl rfl rfl ?_ | refine WQ.nil ?_)
    intro w15 hp15
    clear hp14
    repeat (first | refine WC.seq ?_ | refine WC.reg ?_ | refine WL.pure rfl rfl rfl ?_ | refine WL.nil ?_ | refine WC.skip ?_ | refine WC.block ?_ | refine WC.condT rfl ?_ | refine WC.condF rfl ?_ | refine WL.off rfl rfl rfl ?_ | refine WL.off0 rfl rfl ?_ | refine WC.exit ?_ | refine blk_hit ?_ | refine blk_miss rfl ?_ | refine WC.ret ?_)
    refine WC.loop (Nat × Option Addr × Nat) (fun (i, ba, bc) => [(14, .slice ba ((List.range i).filter fun v => truth.getD v false).length bc), (98, .int .i64 (pairs * starts : Nat)), (99, .int .i64 (i : Nat))] ++ rnE b1 ob b6 b7 b8 b9 m)
      (fun (i, ba, bc) w' => i ≤ pairs * starts ∧ Hp w2 w' (Rna (.slice ba ((List.range i).filter fun v => truth.getD v false).length bc) ((List.range i).filter fun v => truth.getD v false).length ((List.range i).filter fun v => truth.getD v false) :: rnL b9 b8 b7 b6 tb fb cb m all TL FL of_)) (fun (i, _) => pairs * starts - i) (0, none, 0) ⟨rfl, rfl, rfl, rfl, rfl, rfl, rfl, rfl, rfl, rfl⟩ ⟨Nat.zero_le _, hp15.nilrow _ _⟩ ?_
    clear hp15
    rintro ⟨i, ba, bc⟩ w16 ⟨hi, hp16⟩
    replace hi : i ≤ pairs * starts := hi
    have hbi := hbl i
    have hbgi := hbg i
    obtain ⟨bg, hbgq⟩ : ∃ bg, bg = (List.range i).filter fun v => truth.getD v false := ⟨_, rfl⟩
    replace hp16 : Hp w2 w16 (Rna (.slice ba bg.length bc) bg.length bg :: rnL b9 b8 b7 b6 tb fb cb m all TL FL of_) := by rw [hbgq]; exact hp16
    simp only [← hbgq] at hbi hbgi ⊢
    repeat (first | refine WC.seq ?_ | refine WC.reg ?_ | refine WL.pure rfl rfl rfl ?_ | refine WL.nil ?_ | refine WC.skip ?_ | refine WC.block ?_ | refine WC.condT rfl ?_ | refine WC.condF rfl ?_ | refine WL.off rfl rfl rfl ?_ | refine WL.off0 rfl rfl ?_ | refine WC.exit ?_ | refine blk_hit ?_ | refine blk_miss rfl ?_ | refine WC.ret ?_)
    refine WC.cond rfl (fun c2 => ?_) (fun c2 => ?_)
    · have hi : i < pairs * starts := by have h : ((i : Nat) : Int) < ((pairs * starts : Nat) : Int) := of_decide_eq_true c2; omega
      have hiN : i < m := by omega
      have step := wrap_succ (i := i) (n := i + 1) (by omega) (by omega)
      repeat (first | refine WC.seq ?_ | refine WC.reg ?_ | refine WL.pure rfl rfl rfl ?_ | refine WL.nil ?_ | refine WC.skip ?_ | refine WC.block ?_ | refine WC.condT rfl ?_ | refine WC.condF rfl ?_ | refine WL.off rfl rfl rfl ?_ | refine WL.off0 rfl rfl ?_ | refine WC.exit ?_ | refine blk_hit ?_ | refine blk_miss rfl ?_ | refine WC.ret ?_)
      refine WL.load rfl rfl rfl rfl rfl (cell_below hp16.below hc1) ?_
      refine WL.nilC rfl rfl rfl ?_
      repeat (first | refine WC.seq ?_ | refine WC.reg ?_ | refine WL.pure rfl rfl rfl ?_ | refine WL.nil ?_ | refine WC.skip ?_ | refine WC.block ?_ | refine WC.condT rfl ?_ | refine WC.condF rfl ?_ | refine WL.off rfl rfl rfl ?_ | refine WL.off0 rfl rfl ?_ | refine WC.exit ?_ | refine blk_hit ?_ | refine blk_miss rfl ?_ | refine WC.ret ?_)
      refine WL.load rfl rfl rfl rfl rfl (cell_below hp16.below hc6) ?_
      repeat (first | refine WC.seq ?_ | refine WC.reg ?_ | refine WL.pure rfl rfl rfl ?_ | refine WL.nil ?_ | refine WC.skip ?_ | refine WC.block ?_ | refine WC.condT rfl ?_ | refine WC.condF rfl ?_ | refine WL.off rfl rfl rfl ?_ | refine WL.off0 rfl rfl ?_ | refine WC.exit ?_ | refine blk_hit ?_ | refine blk_miss rfl ?_ | refine WC.ret ?_)
      refine WL.ixload rfl (fun _ => rfl) rfl rfl rfl rfl rfl rfl rfl hiN rfl rfl (hTr2.hp hp16) (bl_get (by omega)) ?_
      intro q
      repeat (first | refine WC.seq ?_ | refine WC.reg ?_ | refine WL.pure rfl rfl rfl ?_ | refine WL.nil ?_ | refine WC.skip ?_ | refine WC.block ?_ | refine WC.condT rfl ?_ | refine WC.condF rfl ?_ | refine WL.off rfl rfl rfl ?_ | refine WL.off0 rfl rfl ?_ | refine WC.exit ?_ | refine blk_hit ?_ | refine blk_miss rfl ?_ | refine WC.ret ?_)
      refine WC.cond rfl (fun c3 => ?_) (fun c3 => ?_)
      · rw [if_pos c3] at hbgi
        repeat (first | refine WC.seq ?_ | refine WC.reg ?_ | refine WL.pure rfl rfl rfl ?_ | refine WL.nil ?_ | refine WC.skip ?_ | refine WC.block ?_ | refine WC.condT rfl ?_ | refine WC.condF rfl ?_ | refine WL.off rfl rfl rfl ?_ | refine WL.off0 rfl rfl ?_ | refine WC.exit ?_ | refine blk_hit ?_ | refine blk_miss rfl ?_ | refine WC.ret ?_)
        refine WL.buildS (cs := [.int .i64 (i : Nat)]) rfl rfl rfl rfl rfl rfl rfl rfl rfl (fun b17 w17 h17 => ?_)
        have hp17 := hp16.new h17
        refine WL.append 1 hp17 rfl rfl rfl rfl rfl (by decide) rfl rfl rfl (news := [.int .i64 (i : Nat)]) (Sl.of_obj (hp17.obj 0 rfl) (fun q u hq => by simpa using hq)) rfl (natL_cells [i]) (by unfold maxLen; omega) (by show (bg.length + 1) * 8 ≤ _; omega) ?_
        intro ba2 bc2 w18 hp18 _
        repeat (first | refine WC.seq ?_ | refine WC.reg ?_ | refine WL.pure rfl rfl rfl ?_ | refine WL.nil ?_ | refine WC.skip ?_ | refine WC.block ?_ | refine WC.condT rfl ?_ | refine WC.condF rfl ?_ | refine WL.off rfl rfl rfl ?_ | refine WL.off0 rfl rfl ?_ | refine WC.exit ?_ | refine blk_hit ?_ | refine blk_miss rfl ?_ | refine WC.ret ?_)
        refine ⟨(i + 1, ba2, bc2), (by show pairs * starts - (i + 1) < pairs * starts - i; omega), ?_, hi, ?_⟩
        · show Sub ([(14, .slice ba2 ((List.range (i + 1)).filter fun v => truth.getD v false).length bc2), (98, .int .i64 (pairs * starts : Nat)), (99, .int .i64 (i + 1 : Nat))] ++ rnE b1 ob b6 b7 b8 b9 m) _
          rw [hbgi, List.length_append]
          exact ⟨rfl, rfl, congrArg (fun z => some (Value.int .i64 z)) step, rfl, rfl, rfl, rfl, rfl, rfl, rfl⟩
        · show Hp w2 w18 (Rna (.slice ba2 ((List.range (i + 1)).filter fun v => truth.getD v false).length bc2) ((List.range (i + 1)).filter fun v => truth.getD v false).length ((List.range (i + 1)).filter fun v => truth.getD v false) :: rnL b9 b8 b7 b6 tb fb cb m all TL FL of_)
          rw [hbgi, List.length_append]
          unfold Rna
          rw [show natL (bg ++ [i]) = natL bg ++ [.int .i64 (i : Nat)] from by simp [natL]]
          exact hp18.tail
      · rw [if_neg (by rw [c3]; decide), List.append_nil] at hbgi
        repeat (first | refine WC.seq ?_ | refine WC.reg ?_ | refine WL.pure rfl rfl rfl ?_ | refine WL.nil ?_ | refine WC.skip ?_ | refine WC.block ?_ | refine WC.condT rfl ?_ | refine WC.condF rfl ?_ | refine WL.off rfl rfl rfl ?_ | refine WL.off0 rfl rfl ?_ | refine WC.exit ?_ | refine blk_hit ?_ | refine blk_miss rfl ?_ | refine WC.ret ?_)
        refine ⟨(i + 1, ba, bc), (by show pairs * starts - (i + 1) < pairs * starts - i; omega), ?_, hi, ?_⟩
        · show Sub ([(14, .slice ba ((List.range (i + 1)).filter fun v => truth.getD v false).length bc), (98, .int .i64 (pairs * starts : Nat)), (99, .int .i64 (i + 1 : Nat))] ++ rnE b1 ob b6 b7 b8 b9 m) _
          rw [hbgi]
          exact ⟨rfl, rfl, congrArg (fun z => some (Value.int .i64 z)) step, rfl, rfl, rfl, rfl, rfl, rfl, rfl⟩
        · show Hp w2 w16 (Rna (.slice ba ((List.range (i + 1)).filter fun v => truth.getD v false).length bc) ((List.range (i + 1)).filter fun v => truth.getD v false).length ((List.range (i + 1)).filter fun v => truth.getD v false) :: rnL b9 b8 b7 b6 tb fb cb m all TL FL of_)
          rw [hbgi]
          exact hp16
    · have hi : i = pairs * starts := by have h : ¬ ((i : Nat) : Int) < ((pairs * starts : Nat) : Int) := of_decide_eq_false c2; omega
      subst hi
      have hbgM : bg = beginM pairs starts truth := hbgq
      have hbgN : ∀ u ∈ bg, u < m := fun u hu => by
        rw [hbgq] at hu
        have := List.mem_range.1 (List.mem_filter.1 hu).1
        omega
      rw [← hbgM] at hM
      have hrd : Rd2 w16 m b9 b6 b8 b7 of_ tb fb cb TL FL (turnC of_ (rsN R) m) (fairC of_ fair m) all :=
        ⟨cell_of_obj (hp16.obj 1 rfl) rfl, hp16.obj 3 rfl, hTL, cell_of_obj (hp16.obj 6 rfl) rfl, cE_sl hp16 7 rfl, hofl, cell_of_obj (hp16.obj 2 rfl) rfl, hp16.obj 4 rfl, hFL, cell_of_obj (hp16.obj 5 rfl) rfl⟩
      cases hway : wayM G (rsN R) bg (fun _ => true) (stemFits of_ fair (rsN R) all) with
      | none => rw [hway] at hM; cases hM
      | some rw1 =>
      rw [hway] at hM
      repeat (first | refine WC.seq ?_ | refine WC.reg ?_ | refine WL.pure rfl rfl rfl ?_ | refine WL.nil ?_ | refine WC.skip ?_ | refine WC.block ?_ | refine WC.condT rfl ?_ | refine WC.condF rfl ?_ | refine WL.off rfl rfl rfl ?_ | refine WL.off0 rfl rfl ?_ | refine WC.exit ?_ | refine blk_hit ?_ | refine blk_miss rfl ?_ | refine WC.ret ?_)
      refine WL.call rfl rfl rfl rfl rfl ent90 (way_any (some ⟨ob, 0, none⟩) m m R w16 hRl (hTR.hp hp16) hNb hrlen hrin ba bc bg (Sl.of_row (hp16.at 0 rfl)) (by omega) hbgN
        89 [] (fun _ => true) ent89 (fun v w' _ _ => Ret.mono (run1_any v w') (by rintro _ _ ⟨rfl, rfl⟩; exact ⟨rfl, Hp.start _⟩))
        91 [ptr b9, ptr b6, ptr b8, ptr b7] (stemFits of_ fair (rsN R) all) ent91 (fun v w' hv hp' => by unfold stemFits; rw [hNR]; exact run2_any (hrd.below hp'.below) v hv) G (by omega) rw1 hway) ?_
      rintro uu w17 hwr
      cases rw1 with
      | none =>
        obtain ⟨rfl, hp17⟩ := hwr
        simp only [Option.some.injEq] at hM
        subst hM
        repeat (first | refine WC.seq ?_ | refine WC.reg ?_ | refine WL.pure rfl rfl rfl ?_ | refine WL.nil ?_ | refine WC.skip ?_ | refine WC.block ?_ | refine WC.condT rfl ?_ | refine WC.condF rfl ?_ | refine WL.off rfl rfl rfl ?_ | refine WL.off0 rfl rfl ?_ | refine WC.exit ?_ | refine blk_hit ?_ | refine blk_miss rfl ?_ | refine WC.ret ?_)
        refine WL.eqNil rfl rfl rfl rfl ?_
        repeat (first | refine WC.seq ?_ | refine WC.reg ?_ | refine WL.pure rfl rfl rfl ?_ | refine WL.nil ?_ | refine WC.skip ?_ | refine WC.block ?_ | refine WC.condT rfl ?_ | refine WC.condF rfl ?_ | refine WL.off rfl rfl rfl ?_ | refine WL.off0 rfl rfl ?_ | refine WC.exit ?_ | refine blk_hit ?_ | refine blk_miss rfl ?_ | refine WC.ret ?_)
        exact Res.three rfl rfl rfl rfl rfl ⟨rfl, (hpW.call (hp16.call hp17.below).below).nil'⟩
      | some stem =>
        obtain ⟨hsne, sb, sc, rfl, hp17⟩ := hwr
        have hp17 := hp16.comb hp17
        replace hp17 : Hp w2 w17 (Rna (.slice (some ⟨sb, 0, none⟩) stem.length sc) stem.length stem :: rnL b9 b8 b7 b6 tb fb cb m all TL FL of_) := hp17.pick [0, 2, 3, 4, 5, 6, 7, 8] (by decide)
        clear hp16 hrd
        have hsb := wayM_bd hnext hbgN hway
        have hslp : 0 < stem.length := List.length_pos_iff.2 hsne
        obtain ⟨home, hhome⟩ : ∃ home, home = stem.getLastD 0 := ⟨_, rfl⟩
        have hhN : home < m := by rw [hhome]; exact hsb.1 _ (last_mem hsne)
        have hlast := last_at hsne
        simp only [← hhome] at hM
        rw [← hhome] at hlast
        have e124 : IntKind.i64.wrap (((stem.length : Nat) : Int) - 1) = ((stem.length - 1 : Nat) : Int) := by rw [wrap_mid (by omega) (by omega)]; omega
        repeat (first | refine WC.seq ?_ | refine WC.reg ?_ | refine WL.pure rfl rfl rfl ?_ | refine WL.nil ?_ | refine WC.skip ?_ | refine WC.block ?_ | refine WC.condT rfl ?_ | refine WC.condF rfl ?_ | refine WL.off rfl rfl rfl ?_ | refine WL.off0 rfl rfl ?_ | refine WC.exit ?_ | refine blk_hit ?_ | refine blk_miss rfl ?_ | refine WC.ret ?_)
        refine WL.eqNil rfl rfl rfl rfl ?_
        repeat (first | refine WC.seq ?_ | refine WC.reg ?_ | refine WL.pure rfl rfl rfl ?_ | refine WL.nil ?_ | refine WC.skip ?_ | refine WC.block ?_ | refine WC.condT rfl ?_ | refine WC.condF rfl ?_ | refine WL.off rfl rfl rfl ?_ | refine WL.off0 rfl rfl ?_ | refine WC.exit ?_ | refine blk_hit ?_ | refine blk_miss rfl ?_ | refine WC.ret ?_)
        refine WL.known (d := 124) (congrArg (fun z => some (Value.int .i64 z)) e124) ?_
        refine WL.ixload (j := stem.length - 1) rfl (fun _ => rfl) rfl rfl rfl rfl rfl rfl rfl (by omega) rfl rfl (Sl.of_row (hp17.at 0 rfl)) hlast ?_
        intro q
        refine WL.alloc rfl rfl rfl (fun b18 w18 h18 => ?_)
        have hp18 := hp17.new h18
        refine WL.store rfl rfl rfl rfl rfl rfl (hp18.obj 0 rfl) (Nat.lt_succ_self 0) (fun w19 h19 => ?_)
        have hp19 : Hp w2 w19 (.blk b18 (.cells #[.int .i64 (home : Nat)] 3 (0, 0)) :: Rna (.slice (some ⟨sb, 0, none⟩) stem.length sc) stem.length stem :: rnL b9 b8 b7 b6 tb fb cb m all TL FL of_) := hp18.set 0 rfl rfl h19
        clear hp18 hp17
        obtain ⟨fbb, foo, hfae, hfcell⟩ := hFr2 _ _ (nd hfl hhN)
        repeat (first | refine WC.seq ?_ | refine WC.reg ?_ | refine WL.pure rfl rfl rfl ?_ | refine WL.nil ?_ | refine WC.skip ?_ | refine WC.block ?_ | refine WC.condT rfl ?_ | refine WC.condF rfl ?_ | refine WL.off rfl rfl rfl ?_ | refine WL.off0 rfl rfl ?_ | refine WC.exit ?_ | refine blk_hit ?_ | refine blk_miss rfl ?_ | refine WC.ret ?_)
        refine WC.mid Nat (fun b21 => [(17, .slice (some ⟨sb, 0, none⟩) stem.length sc), (18, ptr b18), (19, .func (.func 92) #[] #[ptr b6, ptr b18]), (20, .slice none 0 0), (21, ptr b21)] ++ rnE b1 ob b6 b7 b8 b9 m)
          (fun b21 w' => Hp w2 w' (.blk b21 (.cells #[.int .i64 (fair.getD home 0 : Nat)] 3 (0, 0)) :: .blk b18 (.cells #[.int .i64 (home : Nat)] 3 (0, 0)) :: Rna (.slice (some ⟨sb, 0, none⟩) stem.length sc) stem.length stem :: rnL b9 b8 b7 b6 tb fb cb m all TL FL of_)) ?_ ?_
        · subst hfae
          refine WC.regH (fun w' => Hp w2 w' [.blk b18 (.cells #[.int .i64 (home : Nat)] 3 (0, 0))]) mixed (by kernel_rfl) (fun w20 hw20 hh20 => ?_)
          have hp20 := hp19.keep hw20
          have hS := hp20.pick [0] (by decide)
          refine WH.load 0 (by kernel_rfl) rfl (by kernel_rfl) rfl rfl rfl rfl rfl (fun w' h => cell_below h.below hc1) hS ?_
          refine WH.nilC 1 (by kernel_rfl) rfl (by kernel_rfl) rfl rfl rfl hS ?_
          refine WH.pure 2 (by kernel_rfl) rfl (by kernel_rfl) rfl rfl rfl (hS) ?_
          refine WH.load 3 (by kernel_rfl) rfl (by kernel_rfl) rfl rfl rfl rfl rfl (fun w' h => cell_below h.below hc7) hS ?_
          refine WH.load 4 (by kernel_rfl) rfl (by kernel_rfl) rfl rfl rfl rfl rfl (fun w' h => cell_of_obj (h.obj 0 rfl) (j := 0) rfl) hS ?_
          refine WH.ix1 5 (by kernel_rfl) rfl (by kernel_rfl) rfl rfl rfl rfl rfl rfl rfl hhN hS ?_
          refine WH.load 6 (by kernel_rfl) rfl (by kernel_rfl) rfl rfl rfl rfl rfl (fun w' h => cell_below h.below hfcell) hS ?_
          refine WH.one 7 rfl (by kernel_rfl) ?_
          refine WL.alloc rfl rfl rfl (fun b21 w21 h21 => ?_)
          have hp21 := hp20.new h21
          refine WL.nil ⟨hp21.pick [1] (by decide), ?_⟩
          refine WH.one 8 rfl (by kernel_rfl) ?_
          refine WL.store rfl rfl rfl rfl rfl rfl (hp21.obj 0 rfl) (Nat.lt_succ_self 0) (fun w22 h22 => ?_)
          have hp22 := hp21.set 0 rfl rfl h22
          refine WL.nil ⟨hp22.pick [1] (by decide), ?_⟩
          refine WH.done (by kernel_rfl) ?_
          exact ⟨b21, ⟨rfl, rfl, rfl, rfl, rfl, rfl, rfl, rfl, rfl, rfl, rfl, rfl⟩, hp22⟩
        rintro b21 e20 w20 hsub hp20
        refine WC.sub hsub ?_
        clear hsub e20 hp19 h18 h19
        replace hp20 : Hp w2 w20 (.blk b21 (.cells #[.int .i64 (fair.getD home 0 : Nat)] 3 (0, 0)) :: .blk b18 (.cells #[.int .i64 (home : Nat)] 3 (0, 0)) :: Rna (.slice (some ⟨sb, 0, none⟩) stem.length sc) stem.length stem :: rnL b9 b8 b7 b6 tb fb cb m all TL FL of_) := hp20
        cases hlp : loopM G (rsN R) of_ fair all home G home (fair.getD home 0) [] with
        | none => rw [hlp] at hM; cases hM
        | some loop =>
        rw [hlp] at hM
        simp only [Option.some.injEq] at hM
        subst hM
        have hGG : G * (1 + G) ≤ 1048576 * 1048577 := Nat.mul_le_mul hG (by omega)
        have eg : ∀ v (h : v < of_.length), of_[v] = of_.getD v 0 := fun v h => by simp [h]
        have hp21 := (hp20.nilrow 3 1).swap
        clear hp20
        repeat (first | refine WC.seq ?_ | refine WC.reg ?_ | refine WL.pure rfl rfl rfl ?_ | refine WL.nil ?_ | refine WC.skip ?_ | refine WC.block ?_ | refine WC.condT rfl ?_ | refine WC.condF rfl ?_ | refine WL.off rfl rfl rfl ?_ | refine WL.off0 rfl rfl ?_ | refine WC.exit ?_ | refine blk_hit ?_ | refine blk_miss rfl ?_ | refine WC.ret ?_)
        refine WL.loadB rfl rfl rfl rfl rfl (hp21.obj 2 rfl) (j := 0) rfl ?_
        repeat (first | refine WC.seq ?_ | refine WC.reg ?_ | refine WL.pure rfl rfl rfl ?_ | refine WL.nil ?_ | refine WC.skip ?_ | refine WC.block ?_ | refine WC.condT rfl ?_ | refine WC.condF rfl ?_ | refine WL.off rfl rfl rfl ?_ | refine WL.off0 rfl rfl ?_ | refine WC.exit ?_ | refine blk_hit ?_ | refine blk_miss rfl ?_ | refine WC.ret ?_)
        refine WC.loop (Nat × Nat × Nat × List Nat × Option Addr × Nat) (fun (f, at_, seen, acc, pa, pc) => [(17, .slice (some ⟨sb, 0, none⟩) stem.length sc), (18, ptr b18), (19, .func (.func 92) #[] #[ptr b6, ptr b18]), (20, .slice pa acc.length pc), (21, ptr b21), (22, .int .i64 (at_ : Nat))] ++ rnE b1 ob b6 b7 b8 b9 m)
          (fun (f, at_, seen, acc, pa, pc) w' => loopM G (rsN R) of_ fair all home f at_ seen acc = some loop ∧ at_ < m ∧ seen < 2 ^ 40 ∧ acc.length + f * (1 + G) ≤ G * (1 + G) ∧ (∀ x ∈ acc, x < m) ∧
            Hp w2 w' (.blk b21 (.cells #[.int .i64 (seen : Nat)] 3 (0, 0)) :: Rna (.slice pa acc.length pc) acc.length acc :: .blk b18 (.cells #[.int .i64 (home : Nat)] 3 (0, 0)) :: Rna (.slice (some ⟨sb, 0, none⟩) stem.length sc) stem.length stem :: rnL b9 b8 b7 b6 tb fb cb m all TL FL of_)) (fun (f, _) => f)
          (G, home, fair.getD home 0, [], none, 0) ⟨rfl, rfl, rfl, rfl, rfl, rfl, rfl, rfl, rfl, rfl, rfl, rfl, rfl⟩ ⟨hlp, hhN, getD_lt40 hfb home, by simp, fun x hx => (by cases hx), hp21⟩ ?_
        clear hp21 hlp hfcell hfae fbb foo
        rintro ⟨f, at_, seen, acc, pa, pc⟩ w21 ⟨hlp, hatN, hsn, hacl, haccN, hp21⟩
        replace hlp : loopM G (rsN R) of_ fair all home f at_ seen acc = some loop := hlp
        replace hatN : at_ < m := hatN
        replace hsn : seen < 2 ^ 40 := hsn
        replace hacl : acc.length + f * (1 + G) ≤ G * (1 + G) := hacl
        replace haccN : ∀ x ∈ acc, x < m := haccN
        replace hp21 : Hp w2 w21 (.blk b21 (.cells #[.int .i64 (seen : Nat)] 3 (0, 0)) :: Rna (.slice pa acc.length pc) acc.length acc :: .blk b18 (.cells #[.int .i64 (home : Nat)] 3 (0, 0)) :: Rna (.slice (some ⟨sb, 0, none⟩) stem.length sc) stem.length stem :: rnL b9 b8 b7 b6 tb fb cb m all TL FL of_) := hp21
        obtain ⟨f0, rfl⟩ : ∃ f0, f = f0 + 1 := by
          cases f with
          | zero => unfold loopM at hlp; cases hlp
          | succ f0 => exact ⟨f0, rfl⟩
        unfold loopM at hlp
        have hatR : at_ < R.length := by omega
        have hrin1 := hrin _ (List.getElem_mem hatR)
        have hrlen1 := hrlen _ (List.getElem_mem hatR)
        have hrsl := hTR.rows _ (List.getElem_mem hatR)
        have hrat := rsV_at hatR
        rw [rsN_at hatR] at hlp
        have htab := hTR.tab
        generalize R[at_] = x at *
        obtain ⟨ra, rc, row⟩ := x
        simp only at hrin1 hrlen1 hrsl hrat hlp
        cases hway2 : wayM G (rsN R) row (fun v => decide (of_.getD v 0 = of_.getD home 0)) (loopFits fair all home seen) with
        | none => rw [hway2] at hlp; cases hlp
        | some pp =>
        cases pp with
        | none => rw [hway2] at hlp; cases hlp
        | some part =>
        rw [hway2] at hlp
        simp only at hlp
        have hpb := wayM_bd hnext hrin1 hway2
        rw [Nat.add_mul, Nat.one_mul] at hacl
        repeat (first | refine WC.seq ?_ | refine WC.reg ?_ | refine WL.pure rfl rfl rfl ?_ | refine WL.nil ?_ | refine WC.skip ?_ | refine WC.block ?_ | refine WC.condT rfl ?_ | refine WC.condF rfl ?_ | refine WL.off rfl rfl rfl ?_ | refine WL.off0 rfl rfl ?_ | refine WC.exit ?_ | refine blk_hit ?_ | refine blk_miss rfl ?_ | refine WC.ret ?_)
        refine WL.ixload rfl (fun _ => rfl) rfl rfl rfl rfl rfl rfl rfl hatN rfl rfl (htab.hp hp21) hrat ?_
        intro q
        repeat (first | refine WC.seq ?_ | refine WC.reg ?_ | refine WL.pure rfl rfl rfl ?_ | refine WL.nil ?_ | refine WC.skip ?_ | refine WC.block ?_ | refine WC.condT rfl ?_ | refine WC.condF rfl ?_ | refine WL.off rfl rfl rfl ?_ | refine WL.off0 rfl rfl ?_ | refine WC.exit ?_ | refine blk_hit ?_ | refine blk_miss rfl ?_ | refine WC.ret ?_)
        refine WL.call rfl rfl rfl rfl rfl ent90 (way_any (some ⟨ob, 0, none⟩) m m R w21 hRl (hTR.hp hp21) hNb hrlen hrin ra rc row (hrsl.hp hp21) hrlen1 hrin1
          92 [ptr b6, ptr b18] (fun v => decide (of_.getD v 0 = of_.getD home 0)) ent92
          (fun v w' hv hp' => Ret.mono (run3_any home (cell_below hp'.below (cell_of_obj (hp21.obj 9 rfl) (j := 0) rfl)) (cell_below hp'.below (cell_of_obj (hp21.obj 2 rfl) (j := 0) rfl)) hofl.symm (fun i h => Sl.cell ((cE_sl hp21 10 rfl).hp hp') (natL_at h)) v (by omega) (by omega)) (by rintro _ _ ⟨rfl, h⟩; exact ⟨by rw [eg, eg], h⟩))
          93 [ptr b1, ptr b21, ptr b7, ptr b18] (loopFits fair all home seen) ent93
          (fun v w' hv hp' => run4_any (cell_below hp'.below (cell_below hp21.below hc1)) (by rw [hp'.below.block xb (Nat.lt_of_lt_of_le (Array.getElem?_eq_some_iff.1 hx2).1 hp21.below.size), hp21.below.block xb (Array.getElem?_eq_some_iff.1 hx2).1]; exact hx2) ((hFr2.hp hp21).hp hp') hfl hfb hsn (cell_below hp'.below (cell_of_obj (hp21.obj 0 rfl) (j := 0) rfl)) (cell_below hp'.below (cell_of_obj (hp21.obj 8 rfl) (j := 0) rfl)) (cell_below hp'.below (cell_of_obj (hp21.obj 2 rfl) (j := 0) rfl)) v hv) G (by omega) (some part) hway2) ?_
        rintro uu w22 ⟨hpne, qb, qc, rfl, hp22⟩
        have hp23 := hp21.comb hp22
        clear hp22 hp21
        have hplp : 0 < part.length := List.length_pos_iff.2 hpne
        have hplast := last_at hpne
        have hatM := last_mem hpne
        have e150 : IntKind.i64.wrap (((part.length : Nat) : Int) - 1) = ((part.length - 1 : Nat) : Int) := by rw [wrap_mid (by omega) (by omega)]; omega
        repeat (first | refine WC.seq ?_ | refine WC.reg ?_ | refine WL.pure rfl rfl rfl ?_ | refine WL.nil ?_ | refine WC.skip ?_ | refine WC.block ?_ | refine WC.condT rfl ?_ | refine WC.condF rfl ?_ | refine WL.off rfl rfl rfl ?_ | refine WL.off0 rfl rfl ?_ | refine WC.exit ?_ | refine blk_hit ?_ | refine blk_miss rfl ?_ | refine WC.ret ?_)
        refine WL.append 2 hp23 rfl rfl rfl rfl rfl (by decide) rfl rfl rfl (news := natL part) (Sl.of_row (hp23.at 0 rfl)) (by rw [natL_len]; exact (Nat.mul_one _).symm) (natL_cells _) (by unfold maxLen; omega) (by show (acc.length + part.length) * 8 ≤ _; omega) ?_
        intro pa2 pc2 w23 hp24 _
        have eal : acc.length + part.length = (acc ++ part).length := by rw [List.length_append]
        rw [eal] at hp24 ⊢
        replace hp24 : Hp w2 w23 (Rna (.slice (some ⟨qb, 0, none⟩) part.length qc) part.length part :: .blk b21 (.cells #[.int .i64 (seen : Nat)] 3 (0, 0)) :: Rna (.slice pa2 (acc ++ part).length pc2) (acc ++ part).length (acc ++ part) :: .blk b18 (.cells #[.int .i64 (home : Nat)] 3 (0, 0)) :: Rna (.slice (some ⟨sb, 0, none⟩) stem.length sc) stem.length stem :: rnL b9 b8 b7 b6 tb fb cb m all TL FL of_) := by
          unfold Rna at hp24 ⊢
          rw [show natL (acc ++ part) = natL acc ++ natL part from List.map_append]
          exact hp24
        clear hp23
        repeat (first | refine WC.seq ?_ | refine WC.reg ?_ | refine WL.pure rfl rfl rfl ?_ | refine WL.nil ?_ | refine WC.skip ?_ | refine WC.block ?_ | refine WC.condT rfl ?_ | refine WC.condF rfl ?_ | refine WL.off rfl rfl rfl ?_ | refine WL.off0 rfl rfl ?_ | refine WC.exit ?_ | refine blk_hit ?_ | refine blk_miss rfl ?_ | refine WC.ret ?_)
        refine WL.known (d := 150) (congrArg (fun z => some (Value.int .i64 z)) e150) ?_
        refine WL.ixload (j := part.length - 1) rfl (fun _ => rfl) rfl rfl rfl rfl rfl rfl rfl (by omega) rfl rfl (Sl.of_row (hp24.at 0 rfl)) hplast ?_
        intro q
        obtain ⟨at2, hat2⟩ : ∃ at2, at2 = part.getLastD 0 := ⟨_, rfl⟩
        rw [← hat2] at hatM
        simp only [← hat2] at hlp ⊢
        have hat2N : at2 < m := hpb.1 _ hatM
        repeat (first | refine WC.seq ?_ | refine WC.reg ?_ | refine WL.pure rfl rfl rfl ?_ | refine WL.nil ?_ | refine WC.skip ?_ | refine WC.block ?_ | refine WC.condT rfl ?_ | refine WC.condF rfl ?_ | refine WL.off rfl rfl rfl ?_ | refine WL.off0 rfl rfl ?_ | refine WC.exit ?_ | refine blk_hit ?_ | refine blk_miss rfl ?_ | refine WC.ret ?_)
        refine WC.loop (Nat × Nat) (fun (i, sn) => [(17, .slice (some ⟨sb, 0, none⟩) stem.length sc), (18, ptr b18), (19, .func (.func 92) #[] #[ptr b6, ptr b18]), (20, .slice pa2 (acc ++ part).length pc2), (21, ptr b21), (22, .int .i64 (at2 : Nat)), (153, .slice (some ⟨qb, 0, none⟩) part.length qc), (154, .int .i64 (part.length : Nat)), (155, .int .i64 (i : Nat))] ++ rnE b1 ob b6 b7 b8 b9 m)
          (fun (i, sn) w' => i ≤ part.length ∧ seenM fair seen (part.take i) = sn ∧ Hp w2 w' (Rna (.slice (some ⟨qb, 0, none⟩) part.length qc) part.length part :: .blk b21 (.cells #[.int .i64 (sn : Nat)] 3 (0, 0)) :: Rna (.slice pa2 (acc ++ part).length pc2) (acc ++ part).length (acc ++ part) :: .blk b18 (.cells #[.int .i64 (home : Nat)] 3 (0, 0)) :: Rna (.slice (some ⟨sb, 0, none⟩) stem.length sc) stem.length stem :: rnL b9 b8 b7 b6 tb fb cb m all TL FL of_)) (fun (i, _) => part.length - i)
          (0, seen) ⟨rfl, rfl, rfl, rfl, rfl, rfl, rfl, rfl, rfl, rfl, rfl, rfl, rfl, rfl, rfl, rfl⟩ ⟨Nat.zero_le _, rfl, hp24⟩ ?_
        clear hp24
        rintro ⟨i, sn⟩ w24 ⟨hi, hsnq, hp24⟩
        replace hi : i ≤ part.length := hi
        replace hsnq : seenM fair seen (part.take i) = sn := hsnq
        replace hp24 : Hp w2 w24 (Rna (.slice (some ⟨qb, 0, none⟩) part.length qc) part.length part :: .blk b21 (.cells #[.int .i64 (sn : Nat)] 3 (0, 0)) :: Rna (.slice pa2 (acc ++ part).length pc2) (acc ++ part).length (acc ++ part) :: .blk b18 (.cells #[.int .i64 (home : Nat)] 3 (0, 0)) :: Rna (.slice (some ⟨sb, 0, none⟩) stem.length sc) stem.length stem :: rnL b9 b8 b7 b6 tb fb cb m all TL FL of_) := hp24
        have hsnb : sn < 2 ^ 40 := by rw [← hsnq]; exact seenM_lt hfb _ _ hsn
        repeat (first | refine WC.seq ?_ | refine WC.reg ?_ | refine WL.pure rfl rfl rfl ?_ | refine WL.nil ?_ | refine WC.skip ?_ | refine WC.block ?_ | refine WC.condT rfl ?_ | refine WC.condF rfl ?_ | refine WL.off rfl rfl rfl ?_ | refine WL.off0 rfl rfl ?_ | refine WC.exit ?_ | refine blk_hit ?_ | refine blk_miss rfl ?_ | refine WC.ret ?_)
        refine WC.cond rfl (fun c3 => ?_) (fun c3 => ?_)
        · have hi : i < part.length := by have h : ((i : Nat) : Int) < ((part.length : Nat) : Int) := of_decide_eq_true c3; omega
          have step := wrap_succ (i := i) (n := i + 1) (by omega) (by omega)
          obtain ⟨v, hv⟩ : ∃ v, v = part[i] := ⟨_, rfl⟩
          have hvN : v < m := by rw [hv]; exact hpb.1 _ (List.getElem_mem hi)
          have hfv := getD_lt40 hfb v
          have eor : bits .or .i64 ((sn : Nat) : Int) ((fair.getD v 0 : Nat) : Int) = ((sn ||| fair.getD v 0 : Nat) : Int) := or_i64 (by omega) (by omega)
          have hsn2 : seenM fair seen (part.take (i + 1)) = sn ||| fair.getD v 0 := by
            rw [← hsnq, List.take_succ_eq_append_getElem hi, ← hv]
            unfold seenM
            rw [List.foldl_append]; rfl
          obtain ⟨fbb, foo, hfae, hfcell⟩ := hFr2 _ _ (nd hfl hvN)
          repeat (first | refine WC.seq ?_ | refine WC.reg ?_ | refine WL.pure rfl rfl rfl ?_ | refine WL.nil ?_ | refine WC.skip ?_ | refine WC.block ?_ | refine WC.condT rfl ?_ | refine WC.condF rfl ?_ | refine WL.off rfl rfl rfl ?_ | refine WL.off0 rfl rfl ?_ | refine WC.exit ?_ | refine blk_hit ?_ | refine blk_miss rfl ?_ | refine WC.ret ?_)
          refine WL.ixload rfl (fun _ => rfl) rfl rfl rfl rfl rfl rfl rfl hi rfl rfl (Sl.of_row (hp24.at 0 rfl)) (natL_at hi) ?_
          intro q
          rw [← hv]
          repeat (first | refine WC.seq ?_ | refine WC.reg ?_ | refine WL.pure rfl rfl rfl ?_ | refine WL.nil ?_ | refine WC.skip ?_ | refine WC.block ?_ | refine WC.condT rfl ?_ | refine WC.condF rfl ?_ | refine WL.off rfl rfl rfl ?_ | refine WL.off0 rfl rfl ?_ | refine WC.exit ?_ | refine blk_hit ?_ | refine blk_miss rfl ?_ | refine WC.ret ?_)
          subst hfae
          refine WC.regS 9 mixed (by kernel_rfl) rfl rfl (fun w25 hw25 hh25 => ?_)
          have hp25 := hp24.keep hw25
          refine WS.loadB rfl rfl rfl rfl rfl (hp25.obj 1 rfl) (j := 0) rfl ?_
          refine WS.load rfl rfl rfl rfl rfl (cell_below hp25.below hc1) ?_
          refine WS.val rfl rfl (yNil rfl) ?_
          repeat (first | refine WS.pure rfl rfl rfl ?_ | refine WS.off rfl rfl rfl ?_ | refine WS.nil ?_)
          refine WS.load rfl rfl rfl rfl rfl (cell_below hp25.below hc7) ?_
          repeat (first | refine WS.pure rfl rfl rfl ?_ | refine WS.off rfl rfl rfl ?_ | refine WS.nil ?_)
          refine WS.ix1 rfl rfl rfl rfl rfl rfl rfl hvN ?_
          refine WS.load rfl rfl rfl rfl rfl (cell_below hp25.below hfcell) ?_
          refine WS.pure rfl rfl rfl ?_
          refine WS.known (d := 167) (congrArg (fun z => some (Value.int .i64 z)) eor) ?_
          repeat (first | refine WS.pure rfl rfl rfl ?_ | refine WS.off rfl rfl rfl ?_ | refine WS.nil ?_)
          refine WL.store rfl rfl rfl rfl rfl rfl (hp25.obj 1 rfl) (Nat.lt_succ_self 0) (fun w26 h26 => ?_)
          have hp26 := hp25.set 1 rfl rfl h26
          repeat (first | refine WC.seq ?_ | refine WC.reg ?_ | refine WL.pure rfl rfl rfl ?_ | refine WL.nil ?_ | refine WC.skip ?_ | refine WC.block ?_ | refine WC.condT rfl ?_ | refine WC.condF rfl ?_ | refine WL.off rfl rfl rfl ?_ | refine WL.off0 rfl rfl ?_ | refine WC.exit ?_ | refine blk_hit ?_ | refine blk_miss rfl ?_ | refine WC.ret ?_)
          exact ⟨(i + 1, sn ||| fair.getD v 0), (by show part.length - (i + 1) < part.length - i; omega), ⟨rfl, rfl, rfl, rfl, rfl, rfl, rfl, rfl, congrArg (fun z => some (Value.int .i64 z)) step, rfl, rfl, rfl, rfl, rfl, rfl, rfl⟩, hi, hsn2, hp26⟩
        · have hi : i = part.length := by have h : ¬ ((i : Nat) : Int) < ((part.length : Nat) : Int) := of_decide_eq_false c3; omega
          subst hi
          rw [List.take_length] at hsnq
          rw [hsnq] at hlp
          repeat (first | refine WC.seq ?_ | refine WC.reg ?_ | refine WL.pure rfl rfl rfl ?_ | refine WL.nil ?_ | refine WC.skip ?_ | refine WC.block ?_ | refine WC.condT rfl ?_ | refine WC.condF rfl ?_ | refine WL.off rfl rfl rfl ?_ | refine WL.off0 rfl rfl ?_ | refine WC.exit ?_ | refine blk_hit ?_ | refine blk_miss rfl ?_ | refine WC.ret ?_)
          refine WL.loadB rfl rfl rfl rfl rfl (hp24.obj 1 rfl) (j := 0) rfl ?_
          refine WL.loadB rfl rfl rfl rfl rfl (hp24.obj 9 rfl) (j := 0) rfl ?_
          refine WL.pure rfl rfl rfl ?_
          refine WL.pure rfl rfl rfl ?_
          have more : ∀ w25, ¬ (sn = all ∧ at2 = home) → Hp w2 w25 (Rna (.slice (some ⟨qb, 0, none⟩) part.length qc) part.length part :: .blk b21 (.cells #[.int .i64 (sn : Nat)] 3 (0, 0)) :: Rna (.slice pa2 (acc ++ part).length pc2) (acc ++ part).length (acc ++ part) :: .blk b18 (.cells #[.int .i64 (home : Nat)] 3 (0, 0)) :: Rna (.slice (some ⟨sb, 0, none⟩) stem.length sc) stem.length stem :: rnL b9 b8 b7 b6 tb fb cb m all TL FL of_) →
              loopM G (rsN R) of_ fair all home f0 at2 sn (acc ++ part) = some loop ∧ at2 < m ∧ sn < 2 ^ 40 ∧ (acc ++ part).length + f0 * (1 + G) ≤ G * (1 + G) ∧ (∀ x ∈ acc ++ part, x < m) ∧ Hp w2 w25 (.blk b21 (.cells #[.int .i64 (sn : Nat)] 3 (0, 0)) :: Rna (.slice pa2 (acc ++ part).length pc2) (acc ++ part).length (acc ++ part) :: .blk b18 (.cells #[.int .i64 (home : Nat)] 3 (0, 0)) :: Rna (.slice (some ⟨sb, 0, none⟩) stem.length sc) stem.length stem :: rnL b9 b8 b7 b6 tb fb cb m all TL FL of_) := by
            intro w25 hno hp25
            rw [if_neg hno] at hlp
            refine ⟨hlp, hat2N, hsnb, by rw [List.length_append]; omega, fun x hx => ?_, hp25.tail⟩
            rcases List.mem_append.1 hx with h | h
            · exact haccN x h
            · exact hpb.1 x h
          refine WL.split 172 rfl (fun c4 => ?_) (fun c4 => ?_)
          · have c4 : sn = all := Int.ofNat_inj.1 (beq_iff_eq.1 c4)
            repeat (first | refine WC.seq ?_ | refine WC.reg ?_ | refine WL.pure rfl rfl rfl ?_ | refine WL.nil ?_ | refine WC.skip ?_ | refine WC.block ?_ | refine WC.condT rfl ?_ | refine WC.condF rfl ?_ | refine WL.off rfl rfl rfl ?_ | refine WL.off0 rfl rfl ?_ | refine WC.exit ?_ | refine blk_hit ?_ | refine blk_miss rfl ?_ | refine WC.ret ?_)
            refine WL.loadB rfl rfl rfl rfl rfl (hp24.obj 3 rfl) (j := 0) rfl ?_
            repeat (first | refine WC.seq ?_ | refine WC.reg ?_ | refine WL.pure rfl rfl rfl ?_ | refine WL.nil ?_ | refine WC.skip ?_ | refine WC.block ?_ | refine WC.condT rfl ?_ | refine WC.condF rfl ?_ | refine WL.off rfl rfl rfl ?_ | refine WL.off0 rfl rfl ?_ | refine WC.exit ?_ | refine blk_hit ?_ | refine blk_miss rfl ?_ | refine WC.ret ?_)
            refine WC.cond rfl (fun c5 => ?_) (fun c5 => ?_)
            · have c5 : at2 = home := Int.ofNat_inj.1 (beq_iff_eq.1 c5)
              rw [if_pos ⟨c4, c5⟩] at hlp
              simp only [Option.some.injEq] at hlp
              have hlN : ∀ x ∈ loop, x < m := fun x hx => by
                rw [← hlp] at hx
                rcases List.mem_append.1 hx with h | h
                · exact haccN x h
                · exact hpb.1 x h
              rw [hlp] at hp24
              have hll : loop.length ≤ 1048576 * 1048577 := by
                have := congrArg List.length hlp
                rw [List.length_append] at this
                omega
              rw [hlp]
              clear hlp more hsnq
              repeat (first | refine WC.seq ?_ | refine WC.reg ?_ | refine WL.pure rfl rfl rfl ?_ | refine WL.nil ?_ | refine WC.skip ?_ | refine WC.block ?_ | refine WC.condT rfl ?_ | refine WC.condF rfl ?_ | refine WL.off rfl rfl rfl ?_ | refine WL.off0 rfl rfl ?_ | refine WC.exit ?_ | refine blk_hit ?_ | refine blk_miss rfl ?_ | refine WC.ret ?_)
              refine WC.regH (fun w' => Hp w24 w' []) mixed (by kernel_rfl) (fun w25 hw25 hh25 => ?_)
              have hp25 := hp24.keep hw25
              have hS : Hp w24 w25 [] := (Hp.start w24).keep hw25
              have hxw : ∀ w', Hp w2 w' [] → w'.heap[xb]? = some (Sxo (.slice an rs.length cn) mk starts (.slice la nl lc) pairs (.slice wa m wc) (.slice ta m tc) (.slice fa m fcap)) := fun w' h => by rw [h.below.block xb (Array.getElem?_eq_some_iff.1 hx2).1]; exact hx2
              refine WH.load 0 (by kernel_rfl) rfl (by kernel_rfl) rfl rfl rfl rfl rfl (fun w' h => cell_below h.below (cell_below hp24.below hc1)) hS ?_
              refine WH.pure 1 (by kernel_rfl) rfl (by kernel_rfl) rfl rfl rfl (hS) ?_
              refine WH.load 3 (by kernel_rfl) rfl (by kernel_rfl) rfl rfl rfl rfl rfl (fun w' h => cell_below h.below (cell_below hp24.below hc1)) hS ?_
              refine WH.pure 4 (by kernel_rfl) rfl (by kernel_rfl) rfl rfl rfl (hS) ?_
              refine WH.one 2 rfl (by kernel_rfl) ?_
              refine WL.call rfl rfl rfl rfl rfl ent94 (states2_any xb _ _ _ _ pairs _ _ _ hp0 (some ⟨sb, 0, none⟩) sc stem (by omega) (fun x hx => by have := hsb.1 x hx; omega) w25 (hxw w25 hp25.nil') (Sl.of_row (hp25.at 4 rfl))) ?_
              rintro _ w26 ⟨ra1, rc1, rfl, hp26⟩
              have hp27 := hp25.comb hp26
              have hS2 := hS.call hp26.below
              refine WL.nil ⟨hS2, ?_⟩
              refine WH.one 5 rfl (by kernel_rfl) ?_
              refine WL.call rfl rfl rfl rfl rfl ent94 (states2_any xb _ _ _ _ pairs _ _ _ hp0 pa2 pc2 loop (by omega) (fun x hx => by have := hlN x hx; omega) w26 (hxw w26 hp27.nil') (Sl.of_row (hp27.at 3 rfl))) ?_
              rintro _ w28 ⟨ra2, rc2, rfl, hp28⟩
              have hp29 := hp27.comb hp28
              have hS3 := hS2.call hp28.below
              refine WL.nil ⟨hS3, ?_⟩
              refine WH.pure 6 (by kernel_rfl) rfl (by kernel_rfl) rfl rfl rfl (hS3) ?_
              refine WH.pure 7 (by kernel_rfl) rfl (by kernel_rfl) rfl rfl rfl (hS3) ?_
              refine WH.pure 8 (by kernel_rfl) rfl (by kernel_rfl) rfl rfl rfl (hS3) ?_
              refine WH.done (by kernel_rfl) ?_
              repeat (first | refine WC.seq ?_ | refine WC.reg ?_ | refine WL.pure rfl rfl rfl ?_ | refine WL.nil ?_ | refine WC.skip ?_ | refine WC.block ?_ | refine WC.condT rfl ?_ | refine WC.condF rfl ?_ | refine WL.off rfl rfl rfl ?_ | refine WL.off0 rfl rfl ?_ | refine WC.exit ?_ | refine blk_hit ?_ | refine blk_miss rfl ?_ | refine WC.ret ?_)
              refine Res.three rfl rfl rfl rfl rfl ⟨ra1, rc1, ra2, rc2, rfl, ?_⟩
              exact (hpW.comb (hp29.pick [0, 1] (by decide))).pick [0, 1] (by decide)
            · have c5 : ¬ at2 = home := fun h => by rw [h] at c5; simp at c5
              repeat (first | refine WC.seq ?_ | refine WC.reg ?_ | refine WL.pure rfl rfl rfl ?_ | refine WL.nil ?_ | refine WC.skip ?_ | refine WC.block ?_ | refine WC.condT rfl ?_ | refine WC.condF rfl ?_ | refine WL.off rfl rfl rfl ?_ | refine WL.off0 rfl rfl ?_ | refine WC.exit ?_ | refine blk_hit ?_ | refine blk_miss rfl ?_ | refine WC.ret ?_)
              exact ⟨(f0, at2, sn, acc ++ part, pa2, pc2), Nat.lt_succ_self f0, ⟨rfl, rfl, rfl, rfl, rfl, rfl, rfl, rfl, rfl, rfl, rfl, rfl, rfl⟩, more w24 (fun h => c5 h.2) hp24⟩
          · have c4 : ¬ sn = all := fun h => by rw [h] at c4; simp at c4
            repeat (first | refine WC.seq ?_ | refine WC.reg ?_ | refine WL.pure rfl rfl rfl ?_ | refine WL.nil ?_ | refine WC.skip ?_ | refine WC.block ?_ | refine WC.condT rfl ?_ | refine WC.condF rfl ?_ | refine WL.off rfl rfl rfl ?_ | refine WL.off0 rfl rfl ?_ | refine WC.exit ?_ | refine blk_hit ?_ | refine blk_miss rfl ?_ | refine WC.ret ?_)
            exact ⟨(f0, at2, sn, acc ++ part, pa2, pc2), Nat.lt_succ_self f0, ⟨rfl, rfl, rfl, rfl, rfl, rfl, rfl, rfl, rfl, rfl, rfl, rfl, rfl⟩, more w24 (fun h => c4 h.1) hp24⟩
end Go.Proofs.YtpbbneclkhfgoaaDoor
end
