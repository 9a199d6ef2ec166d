/- ltl, twenty-third: components (printed by genu23.py). -/
import Derived.Test.YtpbbneclkhfgoaaDoorU22
namespace Go.W
open Go.RowKit
theorem Hp.rowCut {w0 w : World} {L L' : List Ent} {E s n m c : Nat} {a : Option Addr} {xs : List Value} (h : Hp w0 w L) (i : Nat) (hi : nth L i = some (.row E s (.slice a n c) n xs)) (hm : m ≤ n) (hL : L.set i (.row E s (.slice a m c) m (xs.take (m * s))) = L') : Hp w0 w L' := by
  have hs := h.at i hi
  refine h.repl (row := none) i hi hL (World.grownBy.refl w _) (fun k hk => by cases hk) ?_ (fun k hk => .inl ?_)
  · obtain ⟨hl, ⟨hv, hn⟩ | ⟨b, cap, cur, hv, hb, hg, hnc, hcm, hcs, ht⟩⟩ := hs
    · subst hn
      have : m = 0 := by omega
      subst this
      exact ⟨by simp, .inl ⟨hv, rfl⟩⟩
    · simp only [Value.slice.injEq] at hv
      obtain ⟨rfl, _, rfl⟩ := hv
      refine ⟨?_, .inr ⟨b, c, cur, rfl, hb, hg, Nat.le_trans hm hnc, hcm, hcs, ?_⟩⟩
      · rw [List.length_take, hl]
        exact Nat.min_eq_left (Nat.mul_le_mul_right _ hm)
      · rw [← ht, List.take_take, Nat.min_eq_left (Nat.mul_le_mul_right _ hm)]
  · cases a with
    | none => cases hk
    | some a => exact hk
theorem Sl.cell {w : World} {b o i : Nat} {cs : List Value} {u : Value} (h : Sl w (Option.some ⟨b, o, none⟩) cs) (hi : cs[i]? = Option.some u) : w.cell? ⟨b, o + i, none⟩ = Option.some u := by
  obtain ⟨b', o', ha, hc⟩ := h i u hi
  simp only [Option.some.injEq, Addr.mk.injEq] at ha
  rw [ha.1, ha.2.1]; exact hc
theorem Hp.capR {w0 w : World} {L : List Ent} {E s n c : Nat} {a : Option Addr} {xs : List Value} (h : Hp w0 w L) (i : Nat) (hi : nth L i = some (.row E s (.slice a n c) n xs)) : n ≤ c := row_cap (h.at i hi)
end Go.W
namespace Go.Ltl
open Go.W
theorem cast_min (a b : Nat) : min (a : Int) (b : Int) = ((min a b : Nat) : Int) := by
  rcases Nat.le_total a b with h | h
  · rw [Nat.min_eq_left h, Int.min_eq_left (by omega)]
  · rw [Nat.min_eq_right h, Int.min_eq_right (by omega)]
theorem getD_some {l : List Nat} {j : Nat} (h : j < l.length) : l[j]? = some (l.getD j 0) := by simp [h]
theorem tjEnter_path (s : Tj) (v : Nat) : (tjEnter s v).path = s.path := by unfold tjEnter; split <;> rfl
theorem tjRun_nil {next : List (List Nat)} {f : Nat} {s : Tj} (h : s.path = []) : tjRun next f s = some (f, s) := by
  cases f <;> (unfold tjRun; rw [if_pos h])
theorem tjRun_step {next : List (List Nat)} {f : Nat} {s : Tj} {v : Nat} {rest : List Nat} {r : Nat × Tj} (h : tjRun next f s = some r) (hp : s.path = v :: rest) :
    ∃ f0 s', f = f0 + 1 ∧ tjTurn next (tjEnter s v) v rest = some s' ∧ tjRun next f0 s' = some r := by
  have hne : s.path ≠ [] := by rw [hp]; exact List.cons_ne_nil _ _
  cases f with
  | zero => unfold tjRun at h; rw [if_neg hne] at h; cases h
  | succ f =>
    unfold tjRun at h
    rw [if_neg hne] at h
    unfold tjStep at h
    rw [hp] at h
    simp only at h
    cases hq : tjTurn next (tjEnter s v) v rest with
    | none => rw [hq] at h; cases h
    | some s' => rw [hq] at h; exact ⟨f, s', rfl, rfl, h⟩
/-- Within bounds: B more than the fuel. -/
structure TjOk (n B : Nat) (s : Tj) (f : Nat) : Prop where
  i : s.index.length = n
  l : s.low.length = n
  o : s.of_.length = n
  a : s.at_.length = n
  p : ∀ x ∈ s.path, x < n
  k : ∀ x ∈ s.stk, x < n
  c : s.count + f ≤ B
  m : s.number + f ≤ B
  kl : s.stk.length + f ≤ B
  pl : s.path.length + f ≤ B + 1
end Go.Ltl
namespace Go.Proofs.YtpbbneclkhfgoaaDoor
open Go.W Go.Ltl Go.RowKit
set_option maxRecDepth 100000
attribute [local irreducible] WC WL WQ WS WH

/-- A list of numbers of one's own. -/
abbrev cE (b : Nat) (l : List Nat) : Ent := .blk b (.cells (natL l).toArray 3 (0, 0))
theorem cE_sl {w0 w : World} {L : List Ent} {b : Nat} {l : List Nat} (h : Hp w0 w L) (q : Nat) (hq : nth L q = some (cE b l)) : Sl w (some ⟨b, 0, none⟩) (natL l) := Sl.of_obj (h.obj q hq) (fun i u hu => by simpa using hu)
theorem cE_set {w0 w w' : World} {L L' : List Ent} {b j x : Nat} {l : List Nat} (h : Hp w0 w L) (q : Nat) (hq : nth L q = some (cE b l)) (hL : L.set q (cE b (l.set j x)) = L') (hs : SetB w b (.cells ((natL l).toArray.setIfInBounds j (.int .i64 (x : Nat))) 3 (0, 0)) w') : Hp w0 w' L' := by
  have e1 : (natL l).toArray.setIfInBounds j (.int .i64 (x : Nat)) = (natL (l.set j x)).toArray := by simp [natL, List.map_set]
  rw [e1] at hs
  exact h.set q hq hL hs
theorem cE_room {l : List Nat} {j n : Nat} (hl : l.length = n) (h : j < n) : j < (natL l).toArray.size := by simp [natL]; omega
theorem nd {l : List Nat} {i n : Nat} (hl : l.length = n) (h : i < n) : (natL l)[i]? = some (.int .i64 (l.getD i 0 : Nat)) := natL_get (by omega)
theorem natL_zero (n : Nat) : (List.replicate n (Value.int .i64 0)).toArray = (natL (List.replicate n 0)).toArray := by simp [natL]
/-- The top of a row. -/
theorem top_at (v : Nat) (rest : List Nat) : (natL (v :: rest).reverse)[rest.length]? = some (.int .i64 (v : Nat)) := by simp [natL]
theorem top_take (v : Nat) (rest : List Nat) : (natL (v :: rest).reverse).take (rest.length * 1) = natL rest.reverse := by
  simp only [natL, List.reverse_cons, List.map_append, Nat.mul_one]
  have : rest.length = (List.map (fun (n : Nat) => Value.int .i64 n) rest.reverse).length := by simp
  rw [this, List.take_left]
theorem top_push (v : Nat) (rest : List Nat) : natL (v :: rest).reverse = natL rest.reverse ++ [.int .i64 (v : Nat)] := by simp [natL]
/-- A row with its top first. -/
abbrev stE (a : Option Addr) (c : Nat) (l : List Nat) : Ent := Rna (.slice a l.length c) l.length l.reverse
theorem stE_push (a : Option Addr) (c v : Nat) (l : List Nat) : stE a c (v :: l) = .row 3 1 (.slice a (l.length + 1) c) (l.length + 1) (natL l.reverse ++ [.int .i64 (v : Nat)]) := by
  show Ent.row _ _ _ _ (natL (v :: l).reverse) = _
  rw [top_push]; rfl
theorem stE_sl {w0 w : World} {L : List Ent} {a : Option Addr} {c : Nat} {l : List Nat} (h : Hp w0 w L) (q : Nat) (hq : nth L q = some (stE a c l)) : Sl w a (natL l.reverse) := Sl.of_row (h.at q hq)
abbrev sN (b N : Nat) : Value := .slice (some ⟨b, 0, none⟩) N N
abbrev cpE (an : Option Addr) (cn N ib lb ob ab root : Nat) (s : Tj) (sa : Option Addr) (sc : Nat) (pa : Option Addr) (pc : Nat) : Env :=
  [(0, .slice an N cn), (3, .int .i64 (N : Nat)), (4, sN ib N), (5, sN lb N), (6, sN ob N), (7, sN ab N), (8, .slice sa s.stk.length sc), (9, .slice pa s.path.length pc), (10, .int .i64 (s.count : Nat)), (11, .int .i64 (s.number : Nat)), (26, .int .i64 (N : Nat)), (27, .int .i64 (root : Nat))]
abbrev cpL (ib lb ob ab : Nat) (s : Tj) (sa : Option Addr) (sc : Nat) (pa : Option Addr) (pc : Nat) : List Ent := [cE ib s.index, cE lb s.low, cE ob s.of_, cE ab s.at_, stE sa sc s.stk, stE pa pc s.path]
theorem mem_set {l : List Nat} {p : Nat → Prop} (h : ∀ x ∈ l, p x) {a : Nat} (ha : p a) : ∀ x ∈ a :: l, p x := fun x hx => by
  rcases List.mem_cons.1 hx with h1 | h1
  · rw [h1]; exact ha
  · exact h x h1

theorem components_any (an : Option Addr) (cn N : Nat) (rs : Nrs) (w : World) (hN : rs.length = N) (hT : Tbl w an rs) (hn : N ≤ 65536) (hrow : ∀ x ∈ rs, x.2.2.length ≤ 1048576) (hin : ∀ x ∈ rs, ∀ u ∈ x.2.2, u < N) (F : Nat) (hF : F ≤ 8589934592) (of_ : List Nat)
    (hM : compM F (rsN rs) = some of_) : Ret Tryd.prog 88 [.slice an N cn] w fun u w' => ∃ ob, u = sN ob N ∧ of_.length = N ∧ Hp w w' [cE ob of_] := by
  refine enter Tryd.func88 rfl rfl ⟨rfl, rfl⟩ rfl ?_
  repeat (first | refine WC.seq ?_ | refine WC.reg ?_ | refine WL.pure rfl rfl rfl ?_ | refine WL.nil ?_ | refine WC.skip ?_ | refine WC.block ?_ | refine WC.condT rfl ?_ | refine WC.condF rfl ?_ | refine WL.off rfl rfl rfl ?_ | refine WL.off0 rfl rfl ?_ | refine WC.exit ?_ | refine blk_hit ?_ | refine blk_miss rfl ?_ | refine WC.ret ?_)
  refine WC.mid (Nat × Nat × Nat) (fun (ib, lb, ob) => [(0, .slice an N cn), (3, .int .i64 (N : Nat)), (4, sN ib N), (5, sN lb N), (6, sN ob N)]) (fun (ib, lb, ob) w' => Hp w w' [cE ib (List.replicate N 0), cE lb (List.replicate N 0), cE ob (List.replicate N 0)]) ?_ ?_
  · unfold cE
    simp only [← natL_zero]
    refine WC.regH (fun _ => True) mixed (by kernel_rfl) (fun wm0 hw hh => ?_)
    have hm0 := (Hp.start w).keep hw
    refine WH.pure 0 (by kernel_rfl) rfl (by kernel_rfl) rfl rfl rfl (trivial) ?_
    refine WH.pure 2 (by kernel_rfl) rfl (by kernel_rfl) rfl rfl rfl (trivial) ?_
    refine WH.pure 4 (by kernel_rfl) rfl (by kernel_rfl) rfl rfl rfl (trivial) ?_
    refine WH.many [1, 3, 5] (by kernel_rfl) (by decide) ?_
    intro i hi
    simp only [List.mem_cons, List.not_mem_nil, or_false] at hi
    rcases hi with rfl | rfl | rfl
    · refine ⟨_, rfl, ?_⟩
      refine WL.make (m := N) rfl rfl rfl rfl rfl rfl rfl rfl (by show 8 * N ≤ _; omega) (by unfold maxLen; omega) (fun ib wm1 hb0 => ?_)
      have hm1 := hm0.new hb0
      refine WL.nil ⟨trivial, ?_⟩
      refine WH.pure 6 (by kernel_rfl) rfl (by kernel_rfl) rfl rfl rfl trivial ?_
      refine WH.many [3, 5] (by kernel_rfl) (by decide) ?_
      intro i hi
      simp only [List.mem_cons, List.not_mem_nil, or_false] at hi
      rcases hi with rfl | rfl
      · refine ⟨_, rfl, ?_⟩
        refine WL.make (m := N) rfl rfl rfl rfl rfl rfl rfl rfl (by show 8 * N ≤ _; omega) (by unfold maxLen; omega) (fun lb wm2 hb1 => ?_)
        have hm2 := hm1.new hb1
        refine WL.nil ⟨trivial, ?_⟩
        refine WH.pure 7 (by kernel_rfl) rfl (by kernel_rfl) rfl rfl rfl trivial ?_
        refine WH.one 5 rfl (by kernel_rfl) ?_
        refine WL.make (m := N) rfl rfl rfl rfl rfl rfl rfl rfl (by show 8 * N ≤ _; omega) (by unfold maxLen; omega) (fun ob wm3 hb2 => ?_)
        have hm3 := hm2.new hb2
        refine WL.nil ⟨trivial, ?_⟩
        refine WH.pure 8 (by kernel_rfl) rfl (by kernel_rfl) rfl rfl rfl trivial ?_
        refine WH.done (by kernel_rfl) ?_
        exact ⟨(ib, lb, ob), ⟨rfl, rfl, rfl, rfl, rfl, rfl⟩, hm3.pick [2, 1, 0] (by decide)⟩
      · refine ⟨_, rfl, ?_⟩
        refine WL.make (m := N) rfl rfl rfl rfl rfl rfl rfl rfl (by show 8 * N ≤ _; omega) (by unfold maxLen; omega) (fun ob wm2 hb1 => ?_)
        have hm2 := hm1.new hb1
        refine WL.nil ⟨trivial, ?_⟩
        refine WH.one 3 rfl (by kernel_rfl) ?_
        refine WL.make (m := N) rfl rfl rfl rfl rfl rfl rfl rfl (by show 8 * N ≤ _; omega) (by unfold maxLen; omega) (fun lb wm3 hb2 => ?_)
        have hm3 := hm2.new hb2
        refine WL.nil ⟨trivial, ?_⟩
        refine WH.pure 7 (by kernel_rfl) rfl (by kernel_rfl) rfl rfl rfl trivial ?_
        refine WH.pure 8 (by kernel_rfl) rfl (by kernel_rfl) rfl rfl rfl trivial ?_
        refine WH.done (by kernel_rfl) ?_
        exact ⟨(ib, lb, ob), ⟨rfl, rfl, rfl, rfl, rfl, rfl⟩, hm3.pick [2, 0, 1] (by decide)⟩
    · refine ⟨_, rfl, ?_⟩
      refine WL.make (m := N) rfl rfl rfl rfl rfl rfl rfl rfl (by show 8 * N ≤ _; omega) (by unfold maxLen; omega) (fun lb wm1 hb0 => ?_)
      have hm1 := hm0.new hb0
      refine WL.nil ⟨trivial, ?_⟩
      refine WH.many [1, 5] (by kernel_rfl) (by decide) ?_
      intro i hi
      simp only [List.mem_cons, List.not_mem_nil, or_false] at hi
      rcases hi with rfl | rfl
      · refine ⟨_, rfl, ?_⟩
        refine WL.make (m := N) rfl rfl rfl rfl rfl rfl rfl rfl (by show 8 * N ≤ _; omega) (by unfold maxLen; omega) (fun ib wm2 hb1 => ?_)
        have hm2 := hm1.new hb1
        refine WL.nil ⟨trivial, ?_⟩
        refine WH.pure 6 (by kernel_rfl) rfl (by kernel_rfl) rfl rfl rfl trivial ?_
        refine WH.pure 7 (by kernel_rfl) rfl (by kernel_rfl) rfl rfl rfl trivial ?_
        refine WH.one 5 rfl (by kernel_rfl) ?_
        refine WL.make (m := N) rfl rfl rfl rfl rfl rfl rfl rfl (by show 8 * N ≤ _; omega) (by unfold maxLen; omega) (fun ob wm3 hb2 => ?_)
        have hm3 := hm2.new hb2
        refine WL.nil ⟨trivial, ?_⟩
        refine WH.pure 8 (by kernel_rfl) rfl (by kernel_rfl) rfl rfl rfl trivial ?_
        refine WH.done (by kernel_rfl) ?_
        exact ⟨(ib, lb, ob), ⟨rfl, rfl, rfl, rfl, rfl, rfl⟩, hm3.pick [1, 2, 0] (by decide)⟩
      · refine ⟨_, rfl, ?_⟩
        refine WL.make (m := N) rfl rfl rfl rfl rfl rfl rfl rfl (by show 8 * N ≤ _; omega) (by unfold maxLen; omega) (fun ob wm2 hb1 => ?_)
        have hm2 := hm1.new hb1
        refine WL.nil ⟨trivial, ?_⟩
        refine WH.one 1 rfl (by kernel_rfl) ?_
        refine WL.make (m := N) rfl rfl rfl rfl rfl rfl rfl rfl (by show 8 * N ≤ _; omega) (by unfold maxLen; omega) (fun ib wm3 hb2 => ?_)
        have hm3 := hm2.new hb2
        refine WL.nil ⟨trivial, ?_⟩
        refine WH.pure 6 (by kernel_rfl) rfl (by kernel_rfl) rfl rfl rfl trivial ?_
        refine WH.pure 7 (by kernel_rfl) rfl (by kernel_rfl) rfl rfl rfl trivial ?_
        refine WH.pure 8 (by kernel_rfl) rfl (by kernel_rfl) rfl rfl rfl trivial ?_
        refine WH.done (by kernel_rfl) ?_
        exact ⟨(ib, lb, ob), ⟨rfl, rfl, rfl, rfl, rfl, rfl⟩, hm3.pick [0, 2, 1] (by decide)⟩
    · refine ⟨_, rfl, ?_⟩
      refine WL.make (m := N) rfl rfl rfl rfl rfl rfl rfl rfl (by show 8 * N ≤ _; omega) (by unfold maxLen; omega) (fun ob wm1 hb0 => ?_)
      have hm1 := hm0.new hb0
      refine WL.nil ⟨trivial, ?_⟩
      refine WH.many [1, 3] (by kernel_rfl) (by decide) ?_
      intro i hi
      simp only [List.mem_cons, List.not_mem_nil, or_false] at hi
      rcases hi with rfl | rfl
      · refine ⟨_, rfl, ?_⟩
        refine WL.make (m := N) rfl rfl rfl rfl rfl rfl rfl rfl (by show 8 * N ≤ _; omega) (by unfold maxLen; omega) (fun ib wm2 hb1 => ?_)
        have hm2 := hm1.new hb1
        refine WL.nil ⟨trivial, ?_⟩
        refine WH.pure 6 (by kernel_rfl) rfl (by kernel_rfl) rfl rfl rfl trivial ?_
        refine WH.one 3 rfl (by kernel_rfl) ?_
        refine WL.make (m := N) rfl rfl rfl rfl rfl rfl rfl rfl (by show 8 * N ≤ _; omega) (by unfold maxLen; omega) (fun lb wm3 hb2 => ?_)
        have hm3 := hm2.new hb2
        refine WL.nil ⟨trivial, ?_⟩
        refine WH.pure 7 (by kernel_rfl) rfl (by kernel_rfl) rfl rfl rfl trivial ?_
        refine WH.pure 8 (by kernel_rfl) rfl (by kernel_rfl) rfl rfl rfl trivial ?_
        refine WH.done (by kernel_rfl) ?_
        exact ⟨(ib, lb, ob), ⟨rfl, rfl, rfl, rfl, rfl, rfl⟩, hm3.pick [1, 0, 2] (by decide)⟩
      · refine ⟨_, rfl, ?_⟩
        refine WL.make (m := N) rfl rfl rfl rfl rfl rfl rfl rfl (by show 8 * N ≤ _; omega) (by unfold maxLen; omega) (fun lb wm2 hb1 => ?_)
        have hm2 := hm1.new hb1
        refine WL.nil ⟨trivial, ?_⟩
        refine WH.one 1 rfl (by kernel_rfl) ?_
        refine WL.make (m := N) rfl rfl rfl rfl rfl rfl rfl rfl (by show 8 * N ≤ _; omega) (by unfold maxLen; omega) (fun ib wm3 hb2 => ?_)
        have hm3 := hm2.new hb2
        refine WL.nil ⟨trivial, ?_⟩
        refine WH.pure 6 (by kernel_rfl) rfl (by kernel_rfl) rfl rfl rfl trivial ?_
        refine WH.pure 7 (by kernel_rfl) rfl (by kernel_rfl) rfl rfl rfl trivial ?_
        refine WH.pure 8 (by kernel_rfl) rfl (by kernel_rfl) rfl rfl rfl trivial ?_
        refine WH.done (by kernel_rfl) ?_
        exact ⟨(ib, lb, ob), ⟨rfl, rfl, rfl, rfl, rfl, rfl⟩, hm3.pick [0, 1, 2] (by decide)⟩
  rintro ⟨ib, lb, ob⟩ e1 w1 hsub hp1
  replace hp1 : Hp w w1 [cE ib (List.replicate N 0), cE lb (List.replicate N 0), cE ob (List.replicate N 0)] := hp1
  refine WC.sub hsub ?_
  clear hsub e1
  repeat (first | refine WC.seq ?_ | refine WC.reg ?_ | refine WL.pure rfl rfl rfl ?_ | refine WL.nil ?_ | refine WC.skip ?_ | refine WC.block ?_ | refine WC.condT rfl ?_ | refine WC.condF rfl ?_ | refine WL.off rfl rfl rfl ?_ | refine WL.off0 rfl rfl ?_ | refine WC.exit ?_ | refine blk_hit ?_ | refine blk_miss rfl ?_ | refine WC.ret ?_)
  refine WL.make (m := N) rfl rfl rfl rfl rfl rfl rfl rfl (by show 8 * N ≤ _; omega) (by unfold maxLen; omega) (fun ab w2 h2 => ?_)
  have hp2 := hp1.new h2
  rw [show ti3.zero = Value.int .i64 0 from rfl, natL_zero] at hp2
  have hp3 := ((hp2.nilrow 3 1).nilrow 3 1).pick [3, 4, 5, 2, 0, 1] (by decide)
  replace hp3 : Hp w w2 (cpL ib lb ob ab (tj0 N) none 0 none 0) := hp3
  clear hp2 hp1
  unfold compM at hM
  rw [rsN_len, hN] at hM
  obtain ⟨sF, hC, hsF⟩ := Option.map_eq_some_iff.1 hM
  have hok0 : TjOk N F (tj0 N) F := ⟨by simp [tj0], by simp [tj0], by simp [tj0], by simp [tj0], fun x hx => by simp [tj0] at hx, fun x hx => by simp [tj0] at hx, by simp [tj0], by simp [tj0], by simp [tj0], by simp [tj0]⟩
  repeat (first | refine WC.seq ?_ | refine WC.reg ?_ | refine WL.pure rfl rfl rfl ?_ | refine WL.nil ?_ | refine WC.skip ?_ | refine WC.block ?_ | refine WC.condT rfl ?_ | refine WC.condF rfl ?_ | refine WL.off rfl rfl rfl ?_ | refine WL.off0 rfl rfl ?_ | refine WC.exit ?_ | refine blk_hit ?_ | refine blk_miss rfl ?_ | refine WC.ret ?_)
  refine WC.loop (Nat × Nat × Tj × Option Addr × Nat × Option Addr × Nat) (fun (root, f, s, sa, sc, pa, pc) => cpE an cn N ib lb ob ab root s sa sc pa pc)
    (fun (root, f, s, sa, sc, pa, pc) w' => root ≤ N ∧ compRoots (rsN rs) (N - root) root f s = some sF ∧ s.path = [] ∧ TjOk N F s f ∧ Hp w w' (cpL ib lb ob ab s sa sc pa pc)) (fun (root, _) => N - root) (0, F, tj0 N, none, 0, none, 0) ⟨rfl, rfl, rfl, rfl, rfl, rfl, rfl, rfl, rfl, rfl, rfl, rfl, rfl⟩ ⟨Nat.zero_le _, by rw [Nat.sub_zero]; exact hC, rfl, hok0, hp3⟩ ?_
  clear hp3 hok0 hC hM
  rintro ⟨root, f, s, sa, sc, pa, pc⟩ w3 ⟨hr, hC, hpn, hok, hp3⟩
  replace hr : root ≤ N := hr
  replace hC : compRoots (rsN rs) (N - root) root f s = some sF := hC
  replace hpn : s.path = [] := hpn
  replace hok : TjOk N F s f := hok
  replace hp3 : Hp w w3 (cpL ib lb ob ab s sa sc pa pc) := hp3
  repeat (first | refine WC.seq ?_ | refine WC.reg ?_ | refine WL.pure rfl rfl rfl ?_ | refine WL.nil ?_ | refine WC.skip ?_ | refine WC.block ?_ | refine WC.condT rfl ?_ | refine WC.condF rfl ?_ | refine WL.off rfl rfl rfl ?_ | refine WL.off0 rfl rfl ?_ | refine WC.exit ?_ | refine blk_hit ?_ | refine blk_miss rfl ?_ | refine WC.ret ?_)
  refine WC.cond rfl (fun c1 => ?_) (fun c1 => ?_)
  · have hr : root < N := by have := of_decide_eq_true c1; omega
    have step := wrap_succ (i := root) (n := root + 1) (by omega) (by omega)
    rw [show N - root = N - (root + 1) + 1 by omega] at hC
    unfold compRoots at hC
    refine WC.skip ?_
    refine WC.seq ?_
    refine WC.mid (Nat × Tj × Option Addr × Nat × Option Addr × Nat) (fun (f, s, sa, sc, pa, pc) => cpE an cn N ib lb ob ab root s sa sc pa pc)
      (fun (f, s, sa, sc, pa, pc) w' => compRoots (rsN rs) (N - (root + 1)) (root + 1) f s = some sF ∧ s.path = [] ∧ TjOk N F s f ∧ Hp w w' (cpL ib lb ob ab s sa sc pa pc)) ?_ ?_
    · repeat (first | refine WC.seq ?_ | refine WC.reg ?_ | refine WL.pure rfl rfl rfl ?_ | refine WL.nil ?_ | refine WC.skip ?_ | refine WC.block ?_ | refine WC.condT rfl ?_ | refine WC.condF rfl ?_ | refine WL.off rfl rfl rfl ?_ | refine WL.off0 rfl rfl ?_ | refine WC.exit ?_ | refine blk_hit ?_ | refine blk_miss rfl ?_ | refine WC.ret ?_)
      refine WL.ixload rfl (fun _ => rfl) rfl rfl rfl rfl rfl rfl rfl hr rfl rfl (cE_sl hp3 0 rfl) (nd hok.i hr) ?_
      intro q
      repeat (first | refine WC.seq ?_ | refine WC.reg ?_ | refine WL.pure rfl rfl rfl ?_ | refine WL.nil ?_ | refine WC.skip ?_ | refine WC.block ?_ | refine WC.condT rfl ?_ | refine WC.condF rfl ?_ | refine WL.off rfl rfl rfl ?_ | refine WL.off0 rfl rfl ?_ | refine WC.exit ?_ | refine blk_hit ?_ | refine blk_miss rfl ?_ | refine WC.ret ?_)
      refine WC.cond rfl (fun c2 => ?_) (fun c2 => ?_)
      · have c2 : s.index.getD root 0 ≠ 0 := by simpa using c2
        rw [if_pos c2] at hC
        repeat (first | refine WC.seq ?_ | refine WC.reg ?_ | refine WL.pure rfl rfl rfl ?_ | refine WL.nil ?_ | refine WC.skip ?_ | refine WC.block ?_ | refine WC.condT rfl ?_ | refine WC.condF rfl ?_ | refine WL.off rfl rfl rfl ?_ | refine WL.off0 rfl rfl ?_ | refine WC.exit ?_ | refine blk_hit ?_ | refine blk_miss rfl ?_ | refine WC.ret ?_)
        exact ⟨(f, s, sa, sc, pa, pc), ⟨rfl, rfl, rfl, rfl, rfl, rfl, rfl, rfl, rfl, rfl, rfl, rfl, rfl⟩, hC, hpn, hok, hp3⟩
      · have c2 : ¬ s.index.getD root 0 ≠ 0 := by simpa using c2
        rw [if_neg c2] at hC
        cases hR : tjRun (rsN rs) f { s with path := [root] } with
        | none => rw [hR] at hC; cases hC
        | some fs' =>
        obtain ⟨f', s'⟩ := fs'
        rw [hR] at hC
        simp only at hC
        obtain ⟨ix, lw, of0, at0, sk, pth, ct, nm⟩ := s
        simp only at hpn
        subst hpn
        obtain ⟨ki, kl, ko, ka, kp, kk, kc, km, kkl, kpl⟩ := hok
        simp only at ki kl ko ka kp kk kc km kkl kpl
        repeat (first | refine WC.seq ?_ | refine WC.reg ?_ | refine WL.pure rfl rfl rfl ?_ | refine WL.nil ?_ | refine WC.skip ?_ | refine WC.block ?_ | refine WC.condT rfl ?_ | refine WC.condF rfl ?_ | refine WL.off rfl rfl rfl ?_ | refine WL.off0 rfl rfl ?_ | refine WC.exit ?_ | refine blk_hit ?_ | refine blk_miss rfl ?_ | refine WC.ret ?_)
        refine WL.buildS (cs := [.int .i64 (root : Nat)]) rfl rfl rfl rfl rfl rfl rfl rfl rfl (fun b4 w4 h4 => ?_)
        have hp4 := hp3.new h4
        refine WL.append 6 hp4 rfl rfl rfl rfl rfl (by decide) rfl rfl rfl (news := [.int .i64 (root : Nat)]) (Sl.of_obj (hp4.obj 0 rfl) (fun q u hq => by simpa using hq)) rfl (natL_cells [root]) (by show 0 + 1 ≤ maxLen; decide) (by show (0 + 1) * 8 ≤ 140737488355328; decide) ?_
        intro pa2 pc2 w5 hp5 _
        replace hp5 : Hp w w5 (cpL ib lb ob ab ⟨ix, lw, of0, at0, sk, [root], ct, nm⟩ sa sc pa2 pc2) := hp5.tail
        repeat (first | refine WC.seq ?_ | refine WC.reg ?_ | refine WL.pure rfl rfl rfl ?_ | refine WL.nil ?_ | refine WC.skip ?_ | refine WC.block ?_ | refine WC.condT rfl ?_ | refine WC.condF rfl ?_ | refine WL.off rfl rfl rfl ?_ | refine WL.off0 rfl rfl ?_ | refine WC.exit ?_ | refine blk_hit ?_ | refine blk_miss rfl ?_ | refine WC.ret ?_)
        refine WC.loop (Nat × Tj × Option Addr × Nat × Option Addr × Nat) (fun (f, s, sa, sc, pa, pc) => cpE an cn N ib lb ob ab root s sa sc pa pc)
          (fun (f, s, sa, sc, pa, pc) w' => tjRun (rsN rs) f s = some (f', s') ∧ TjOk N F s f ∧ Hp w w' (cpL ib lb ob ab s sa sc pa pc)) (fun (f, _) => f) (f, ⟨ix, lw, of0, at0, sk, [root], ct, nm⟩, sa, sc, pa2, pc2) ⟨rfl, rfl, rfl, rfl, rfl, rfl, rfl, rfl, rfl, rfl, rfl, rfl, rfl⟩
          ⟨hR, ⟨ki, kl, ko, ka, mem_set (fun x hx => by cases hx) hr, kk, kc, km, kkl, by show 1 + f ≤ F + 1; omega⟩, hp5⟩ ?_
        clear hp5 hp4 hp3 hR ki kl ko ka kp kk kc km kkl kpl
        rintro ⟨f, ⟨ix, lw, of0, at0, sk, pth, ct, nm⟩, sa, sc, pa, pc⟩ w6 ⟨hR, hok, hp6⟩
        replace hR : tjRun (rsN rs) f ⟨ix, lw, of0, at0, sk, pth, ct, nm⟩ = some (f', s') := hR
        replace hok : TjOk N F ⟨ix, lw, of0, at0, sk, pth, ct, nm⟩ f := hok
        replace hp6 : Hp w w6 (cpL ib lb ob ab ⟨ix, lw, of0, at0, sk, pth, ct, nm⟩ sa sc pa pc) := hp6
        repeat (first | refine WC.seq ?_ | refine WC.reg ?_ | refine WL.pure rfl rfl rfl ?_ | refine WL.nil ?_ | refine WC.skip ?_ | refine WC.block ?_ | refine WC.condT rfl ?_ | refine WC.condF rfl ?_ | refine WL.off rfl rfl rfl ?_ | refine WL.off0 rfl rfl ?_ | refine WC.exit ?_ | refine blk_hit ?_ | refine blk_miss rfl ?_ | refine WC.ret ?_)
        refine WC.cond rfl (fun c3 => ?_) (fun c3 => ?_)
        · have c3 : 0 < pth.length := by have h : (0 : Int) < ((pth.length : Nat) : Int) := of_decide_eq_true c3; omega
          obtain ⟨v, rest, rfl⟩ : ∃ v rest, pth = v :: rest := by
            cases pth with
            | nil => exact absurd c3 (Nat.lt_irrefl _)
            | cons v rest => exact ⟨v, rest, rfl⟩
          obtain ⟨f0, s2, rfl, hturn, hR2⟩ := tjRun_step hR rfl
          clear hR
          have hv : v < N := hok.p v (by simp)
          have hpl0 : rest.length + 1 + (f0 + 1) ≤ F + 1 := hok.pl
          have e45 : IntKind.i64.wrap (((v :: rest).length : Nat) - 1 : Int) = ((rest.length : Nat) : Int) := by
            have := hok.pl
            simp only [List.length_cons] at this ⊢
            rw [wrap_mid (by omega) (by omega)]; omega
          refine WC.skip ?_
          refine WC.block ?_
          refine WC.seq ?_
          refine WC.reg ?_
          refine WL.pure rfl rfl rfl ?_
          refine WL.pure rfl rfl rfl ?_
          refine WL.pure rfl rfl rfl ?_
          refine WL.pure rfl rfl rfl ?_
          refine WL.known (d := 45) (congrArg (fun z => some (Value.int .i64 z)) e45) ?_
          refine WL.ixload (j := rest.length) rfl (fun _ => rfl) rfl rfl rfl rfl rfl rfl rfl (Nat.lt_succ_self _) rfl rfl (stE_sl hp6 5 rfl) (top_at v rest) ?_
          intro q
          refine WL.pure rfl rfl rfl ?_
          refine WL.nil ?_
          refine WC.seq ?_
          refine WC.mid (Tj × Option Addr × Nat) (fun (s, sa, sc) => (13, .int .i64 (v : Nat)) :: cpE an cn N ib lb ob ab root s sa sc pa pc)
            (fun (s, sa, sc) w' => s = tjEnter ⟨ix, lw, of0, at0, sk, v :: rest, ct, nm⟩ v ∧ TjOk N F s f0 ∧ s.number + (f0 + 1) ≤ F ∧ Hp w w' (cpL ib lb ob ab s sa sc pa pc)) ?_ ?_
          · repeat (first | refine WC.seq ?_ | refine WC.reg ?_ | refine WL.pure rfl rfl rfl ?_ | refine WL.nil ?_ | refine WC.skip ?_ | refine WC.block ?_ | refine WC.condT rfl ?_ | refine WC.condF rfl ?_ | refine WL.off rfl rfl rfl ?_ | refine WL.off0 rfl rfl ?_ | refine WC.exit ?_ | refine blk_hit ?_ | refine blk_miss rfl ?_ | refine WC.ret ?_)
            refine WL.ixload rfl (fun _ => rfl) rfl rfl rfl rfl rfl rfl rfl hv rfl rfl (cE_sl hp6 0 rfl) (nd hok.i hv) ?_
            intro q
            obtain ⟨ki, kl, ko, ka, kp, kk, kc, km, kkl, kpl⟩ := hok
            simp only at ki kl ko ka kp kk kc km kkl kpl
            repeat (first | refine WC.seq ?_ | refine WC.reg ?_ | refine WL.pure rfl rfl rfl ?_ | refine WL.nil ?_ | refine WC.skip ?_ | refine WC.block ?_ | refine WC.condT rfl ?_ | refine WC.condF rfl ?_ | refine WL.off rfl rfl rfl ?_ | refine WL.off0 rfl rfl ?_ | refine WC.exit ?_ | refine blk_hit ?_ | refine blk_miss rfl ?_ | refine WC.ret ?_)
            refine WC.cond rfl (fun c4 => ?_) (fun c4 => ?_)
            · have c4 : ix.getD v 0 = 0 := by simpa using c4
              have stc := wrap_succ (i := ct) (n := ct + 1) (by omega) (by omega)
              refine WC.seq ?_
              refine WC.reg ?_
              refine WL.pure rfl rfl rfl ?_
              refine WL.pure rfl rfl rfl ?_
              refine WL.known (d := 54) (congrArg (fun z => some (Value.int .i64 z)) stc) ?_
              repeat (first | refine WC.seq ?_ | refine WC.reg ?_ | refine WL.pure rfl rfl rfl ?_ | refine WL.nil ?_ | refine WC.skip ?_ | refine WC.block ?_ | refine WC.condT rfl ?_ | refine WC.condF rfl ?_ | refine WL.off rfl rfl rfl ?_ | refine WL.off0 rfl rfl ?_ | refine WC.exit ?_ | refine blk_hit ?_ | refine blk_miss rfl ?_ | refine WC.ret ?_)
              refine WL.ix1 rfl rfl rfl rfl rfl rfl rfl hv ?_
              rw [Nat.zero_add]
              refine WL.store rfl rfl rfl rfl rfl rfl (hp6.obj 0 rfl) (cE_room ki hv) (fun w7 h7 => ?_)
              have hp7 := cE_set hp6 0 rfl rfl h7
              refine WL.ix1 rfl rfl rfl rfl rfl rfl rfl hv ?_
              rw [Nat.zero_add]
              refine WL.store rfl rfl rfl rfl rfl rfl (hp7.obj 1 rfl) (cE_room kl hv) (fun w8 h8 => ?_)
              have hp8 := cE_set hp7 1 rfl rfl h8
              repeat (first | refine WC.seq ?_ | refine WC.reg ?_ | refine WL.pure rfl rfl rfl ?_ | refine WL.nil ?_ | refine WC.skip ?_ | refine WC.block ?_ | refine WC.condT rfl ?_ | refine WC.condF rfl ?_ | refine WL.off rfl rfl rfl ?_ | refine WL.off0 rfl rfl ?_ | refine WC.exit ?_ | refine blk_hit ?_ | refine blk_miss rfl ?_ | refine WC.ret ?_)
              refine WL.buildS (cs := [.int .i64 (v : Nat)]) rfl rfl rfl rfl rfl rfl rfl rfl rfl (fun b9 w9 h9 => ?_)
              have hp9 := hp8.new h9
              refine WL.append 5 hp9 rfl rfl rfl rfl rfl (by decide) rfl rfl rfl (news := [.int .i64 (v : Nat)]) (Sl.of_obj (hp9.obj 0 rfl) (fun q u hq => by simpa using hq)) rfl (natL_cells [v]) (by unfold maxLen; show sk.length + 1 ≤ _; omega) (by show (sk.length + 1) * 8 ≤ _; omega) ?_
              intro sa2 sc2 w10 hp10 _
              repeat (first | refine WC.seq ?_ | refine WC.reg ?_ | refine WL.pure rfl rfl rfl ?_ | refine WL.nil ?_ | refine WC.skip ?_ | refine WC.block ?_ | refine WC.condT rfl ?_ | refine WC.condF rfl ?_ | refine WL.off rfl rfl rfl ?_ | refine WL.off0 rfl rfl ?_ | refine WC.exit ?_ | refine blk_hit ?_ | refine blk_miss rfl ?_ | refine WC.ret ?_)
              refine ⟨(⟨ix.set v (ct + 1), lw.set v (ct + 1), of0, at0, v :: sk, v :: rest, ct + 1, nm⟩, sa2, sc2), ⟨rfl, rfl, rfl, rfl, rfl, rfl, rfl, rfl, rfl, rfl, rfl, rfl, rfl, rfl⟩, ?_, ?_, km, ?_⟩
              · show _ = tjEnter _ _
                unfold tjEnter
                rw [if_pos c4]
              · exact ⟨by simpa using ki, by simpa using kl, ko, ka, kp, mem_set kk hv, by show ct + 1 + f0 ≤ F; omega, by show nm + f0 ≤ F; omega, by show sk.length + 1 + f0 ≤ F; omega, by show (v :: rest).length + f0 ≤ F + 1; omega⟩
              · show Hp w w10 [_, _, _, _, stE sa2 sc2 (v :: sk), _]
                rw [stE_push]
                exact hp10.tail
            · have c4 : ¬ ix.getD v 0 = 0 := by simpa using c4
              repeat (first | refine WC.seq ?_ | refine WC.reg ?_ | refine WL.pure rfl rfl rfl ?_ | refine WL.nil ?_ | refine WC.skip ?_ | refine WC.block ?_ | refine WC.condT rfl ?_ | refine WC.condF rfl ?_ | refine WL.off rfl rfl rfl ?_ | refine WL.off0 rfl rfl ?_ | refine WC.exit ?_ | refine blk_hit ?_ | refine blk_miss rfl ?_ | refine WC.ret ?_)
              refine ⟨(⟨ix, lw, of0, at0, sk, v :: rest, ct, nm⟩, sa, sc), ⟨rfl, rfl, rfl, rfl, rfl, rfl, rfl, rfl, rfl, rfl, rfl, rfl, rfl, rfl⟩, ?_, ?_, km, hp6⟩
              · show _ = tjEnter _ _
                unfold tjEnter
                rw [if_neg c4]
              · exact ⟨ki, kl, ko, ka, kp, kk, by show ct + f0 ≤ F; omega, by show nm + f0 ≤ F; omega, by show sk.length + f0 ≤ F; omega, by show (v :: rest).length + f0 ≤ F + 1; omega⟩
          rintro ⟨s1, sa, sc⟩ e7 w7 hsub ⟨hs1, hok, hnm, hp7⟩
          replace hnm : s1.number + (f0 + 1) ≤ F := hnm
          replace hs1 : s1 = tjEnter ⟨ix, lw, of0, at0, sk, v :: rest, ct, nm⟩ v := hs1
          replace hok : TjOk N F s1 f0 := hok
          replace hp7 : Hp w w7 (cpL ib lb ob ab s1 sa sc pa pc) := hp7
          refine WC.sub hsub ?_
          clear hsub e7 hp6
          rw [← hs1] at hturn
          have hpth : s1.path = v :: rest := by rw [hs1, tjEnter_path]
          clear hs1 e45
          obtain ⟨ix, lw, of0, at0, sk, pth, ct, nm⟩ := s1
          simp only at hpth
          subst hpth
          simp only at hnm
          obtain ⟨ki, kl, ko, ka, kp, kk, kc, km, kkl, kpl⟩ := hok
          simp only at ki kl ko ka kp kk kc km kkl kpl
          have e45 : IntKind.i64.wrap (((v :: rest).length : Nat) - 1 : Int) = ((rest.length : Nat) : Int) := by
            simp only [List.length_cons] at kpl ⊢
            rw [wrap_mid (by omega) (by omega)]; omega
          have hvr : v < rs.length := by omega
          have hrb := hrow _ (List.getElem_mem hvr)
          have hrin := hin _ (List.getElem_mem hvr)
          have hrs := hT.rows _ (List.getElem_mem hvr)
          obtain ⟨ta, to, hta, htc⟩ := hT.tab _ _ (rsV_at hvr)
          unfold tjTurn at hturn
          rw [rsN_at hvr] at hturn
          generalize rs[v] = r at *
          obtain ⟨ra, rc, row⟩ := r
          simp only at hrb hrin hrs htc hturn
          subst hta
          refine WC.seq ?_
          refine WC.seq ?_
          refine WC.regQ (fun w' => Hp w w' (cpL ib lb ob ab ⟨ix, lw, of0, at0, sk, v :: rest, ct, nm⟩ sa sc pa pc)) mixed (by kernel_rfl) (fun w' hw' => hp7.keep hw') ?_
          repeat (first | refine WQ.pure rfl rfl rfl ?_ | refine WQ.off rfl rfl rfl ?_ | refine WQ.nil ?_)
          refine WQ.ixload rfl (fun _ => rfl) rfl rfl rfl rfl rfl rfl rfl hv rfl rfl (fun w' h => Sl.cell (cE_sl h 3 rfl) (nd ka hv)) ?_
          repeat (first | refine WQ.pure rfl rfl rfl ?_ | refine WQ.off rfl rfl rfl ?_ | refine WQ.nil ?_)
          refine WQ.ixload rfl (fun _ => rfl) rfl rfl rfl rfl rfl rfl rfl hv rfl rfl (fun w' h => cell_below h.below htc) ?_
          repeat (first | refine WQ.pure rfl rfl rfl ?_ | refine WQ.off rfl rfl rfl ?_ | refine WQ.nil ?_)
          intro w8 hp8
          clear hp7
          refine WC.cond rfl (fun c5 => ?_) (fun c5 => ?_)
          · have c5 : at0.getD v 0 < row.length := by have h : ((at0.getD v 0 : Nat) : Int) < ((row.length : Nat) : Int) := of_decide_eq_true c5; omega
            rw [if_pos c5] at hturn
            obtain ⟨u, hu⟩ : ∃ u, u = row.getD (at0.getD v 0) 0 := ⟨_, rfl⟩
            rw [← hu] at hturn
            have hu1 : row[at0.getD v 0]? = some u := by rw [hu]; exact getD_some c5
            have huN : u < N := hrin u (List.mem_of_getElem? hu1)
            have hun : (natL row)[at0.getD v 0]? = some (.int .i64 (u : Nat)) := by rw [natL_get c5, hu]
            obtain ⟨rb, ro, rfl, hrcell⟩ := hrs _ _ hun
            have sta := wrap_succ (i := at0.getD v 0) (n := at0.getD v 0 + 1) (by omega) (by omega)
            simp only [Option.some.injEq] at hturn
            repeat (first | refine WC.seq ?_ | refine WC.skip ?_ | refine WC.block ?_)
            refine WC.regQ (fun w' => Hp w w' (cpL ib lb ob ab ⟨ix, lw, of0, at0, sk, v :: rest, ct, nm⟩ sa sc pa pc)) mixed (by kernel_rfl) (fun w' hw' => hp8.keep hw') ?_
            repeat (first | refine WQ.pure rfl rfl rfl ?_ | refine WQ.off rfl rfl rfl ?_ | refine WQ.nil ?_)
            refine WQ.ixload rfl (fun _ => rfl) rfl rfl rfl rfl rfl rfl rfl hv rfl rfl (fun w' h => cell_below h.below htc) ?_
            repeat (first | refine WQ.pure rfl rfl rfl ?_ | refine WQ.off rfl rfl rfl ?_ | refine WQ.nil ?_)
            refine WQ.ixload rfl (fun _ => rfl) rfl rfl rfl rfl rfl rfl rfl hv rfl rfl (fun w' h => Sl.cell (cE_sl h 3 rfl) (nd ka hv)) ?_
            refine WQ.ixload rfl (fun _ => rfl) rfl rfl rfl rfl rfl rfl rfl c5 rfl rfl (fun w' h => cell_below h.below hrcell) ?_
            repeat (first | refine WQ.pure rfl rfl rfl ?_ | refine WQ.off rfl rfl rfl ?_ | refine WQ.nil ?_)
            intro w9 hp9
            clear hp8
            repeat (first | refine WC.seq ?_ | refine WC.reg ?_ | refine WL.pure rfl rfl rfl ?_ | refine WL.nil ?_ | refine WC.skip ?_ | refine WC.block ?_ | refine WC.condT rfl ?_ | refine WC.condF rfl ?_ | refine WL.off rfl rfl rfl ?_ | refine WL.off0 rfl rfl ?_ | refine WC.exit ?_ | refine blk_hit ?_ | refine blk_miss rfl ?_ | refine WC.ret ?_)
            refine WL.ixload rfl (fun _ => rfl) rfl rfl rfl rfl rfl rfl rfl hv rfl rfl (cE_sl hp9 3 rfl) (nd ka hv) ?_
            intro q
            refine WL.pure rfl rfl rfl ?_
            refine WL.known (d := 91) (congrArg (fun z => some (Value.int .i64 z)) sta) ?_
            refine WL.ix1 rfl rfl rfl rfl rfl rfl rfl hv ?_
            rw [Nat.zero_add]
            refine WL.store rfl rfl rfl rfl rfl rfl (hp9.obj 3 rfl) (cE_room ka hv) (fun w10 h10 => ?_)
            have hp10 : Hp w w10 (cpL ib lb ob ab ⟨ix, lw, of0, at0.set v (at0.getD v 0 + 1), sk, v :: rest, ct, nm⟩ sa sc pa pc) := cE_set hp9 3 rfl rfl h10
            repeat (first | refine WC.seq ?_ | refine WC.reg ?_ | refine WL.pure rfl rfl rfl ?_ | refine WL.nil ?_ | refine WC.skip ?_ | refine WC.block ?_ | refine WC.condT rfl ?_ | refine WC.condF rfl ?_ | refine WL.off rfl rfl rfl ?_ | refine WL.off0 rfl rfl ?_ | refine WC.exit ?_ | refine blk_hit ?_ | refine blk_miss rfl ?_ | refine WC.ret ?_)
            refine WL.ixload rfl (fun _ => rfl) rfl rfl rfl rfl rfl rfl rfl huN rfl rfl (cE_sl hp10 0 rfl) (nd ki huN) ?_
            intro q
            repeat (first | refine WC.seq ?_ | refine WC.reg ?_ | refine WL.pure rfl rfl rfl ?_ | refine WL.nil ?_ | refine WC.skip ?_ | refine WC.block ?_ | refine WC.condT rfl ?_ | refine WC.condF rfl ?_ | refine WL.off rfl rfl rfl ?_ | refine WL.off0 rfl rfl ?_ | refine WC.exit ?_ | refine blk_hit ?_ | refine blk_miss rfl ?_ | refine WC.ret ?_)
            unfold tjGo tjNext at hturn
            simp only at hturn
            refine WC.cond rfl (fun c6 => ?_) (fun c6 => ?_)
            · have c6 : ix.getD u 0 = 0 := by simpa using c6
              rw [if_pos c6] at hturn
              subst hturn
              repeat (first | refine WC.seq ?_ | refine WC.reg ?_ | refine WL.pure rfl rfl rfl ?_ | refine WL.nil ?_ | refine WC.skip ?_ | refine WC.block ?_ | refine WC.condT rfl ?_ | refine WC.condF rfl ?_ | refine WL.off rfl rfl rfl ?_ | refine WL.off0 rfl rfl ?_ | refine WC.exit ?_ | refine blk_hit ?_ | refine blk_miss rfl ?_ | refine WC.ret ?_)
              refine WL.buildS (cs := [.int .i64 (u : Nat)]) rfl rfl rfl rfl rfl rfl rfl rfl rfl (fun b11 w11 h11 => ?_)
              have hp11 := hp10.new h11
              refine WL.append 6 hp11 rfl rfl rfl rfl rfl (by decide) rfl rfl rfl (news := [.int .i64 (u : Nat)]) (Sl.of_obj (hp11.obj 0 rfl) (fun q u hq => by simpa using hq)) rfl (natL_cells [u]) (by unfold maxLen; show (v :: rest).length + 1 ≤ _; omega) (by show ((v :: rest).length + 1) * 8 ≤ _; omega) ?_
              intro pa2 pc2 w12 hp12 _
              repeat (first | refine WC.seq ?_ | refine WC.reg ?_ | refine WL.pure rfl rfl rfl ?_ | refine WL.nil ?_ | refine WC.skip ?_ | refine WC.block ?_ | refine WC.condT rfl ?_ | refine WC.condF rfl ?_ | refine WL.off rfl rfl rfl ?_ | refine WL.off0 rfl rfl ?_ | refine WC.exit ?_ | refine blk_hit ?_ | refine blk_miss rfl ?_ | refine WC.ret ?_)
              refine ⟨(f0, ⟨ix, lw, of0, at0.set v (at0.getD v 0 + 1), sk, u :: v :: rest, ct, nm⟩, sa, sc, pa2, pc2), Nat.lt_succ_self f0, ⟨rfl, rfl, rfl, rfl, rfl, rfl, rfl, rfl, rfl, rfl, rfl, rfl, rfl⟩, hR2, ?_, ?_⟩
              · exact ⟨ki, kl, ko, by simpa using ka, mem_set kp huN, kk, kc, km, kkl, by show rest.length + 1 + 1 + f0 ≤ F + 1; omega⟩
              · show Hp w w12 [_, _, _, _, _, stE pa2 pc2 (u :: v :: rest)]
                rw [stE_push]
                exact hp12.tail
            · have c6 : ¬ ix.getD u 0 = 0 := by simpa using c6
              rw [if_neg c6] at hturn
              repeat (first | refine WC.seq ?_ | refine WC.reg ?_ | refine WL.pure rfl rfl rfl ?_ | refine WL.nil ?_ | refine WC.skip ?_ | refine WC.block ?_ | refine WC.condT rfl ?_ | refine WC.condF rfl ?_ | refine WL.off rfl rfl rfl ?_ | refine WL.off0 rfl rfl ?_ | refine WC.exit ?_ | refine blk_hit ?_ | refine blk_miss rfl ?_ | refine WC.ret ?_)
              refine WL.ixload rfl (fun _ => rfl) rfl rfl rfl rfl rfl rfl rfl huN rfl rfl (cE_sl hp10 2 rfl) (nd ko huN) ?_
              intro q
              repeat (first | refine WC.seq ?_ | refine WC.reg ?_ | refine WL.pure rfl rfl rfl ?_ | refine WL.nil ?_ | refine WC.skip ?_ | refine WC.block ?_ | refine WC.condT rfl ?_ | refine WC.condF rfl ?_ | refine WL.off rfl rfl rfl ?_ | refine WL.off0 rfl rfl ?_ | refine WC.exit ?_ | refine blk_hit ?_ | refine blk_miss rfl ?_ | refine WC.ret ?_)
              refine WC.cond rfl (fun c7 => ?_) (fun c7 => ?_)
              · have c7 : of0.getD u 0 = 0 := by simpa using c7
                rw [if_pos c7] at hturn
                subst hturn
                refine WC.regS 12 mixed (by kernel_rfl) rfl rfl (fun w11 hw11 hh11 => ?_)
                have hp11 := hp10.keep hw11
                repeat (first | refine WS.pure rfl rfl rfl ?_ | refine WS.off rfl rfl rfl ?_ | refine WS.nil ?_)
                refine WS.ix1 rfl rfl rfl rfl rfl rfl rfl hv ?_
                refine WS.load rfl rfl rfl rfl rfl (Sl.cell (cE_sl hp11 1 rfl) (nd kl hv)) ?_
                repeat (first | refine WS.pure rfl rfl rfl ?_ | refine WS.off rfl rfl rfl ?_ | refine WS.nil ?_)
                refine WS.ix1 rfl rfl rfl rfl rfl rfl rfl huN ?_
                refine WS.load rfl rfl rfl rfl rfl (Sl.cell (cE_sl hp11 0 rfl) (nd ki huN)) ?_
                repeat (first | refine WS.pure rfl rfl rfl ?_ | refine WS.off rfl rfl rfl ?_ | refine WS.nil ?_)
                refine WS.known (d := 117) (congrArg (fun z => some (Value.int .i64 z)) (cast_min (lw.getD v 0) (ix.getD u 0))) ?_
                refine WS.ix1 rfl rfl rfl rfl rfl rfl rfl hv ?_
                rw [Nat.zero_add]
                repeat (first | refine WS.pure rfl rfl rfl ?_ | refine WS.off rfl rfl rfl ?_ | refine WS.nil ?_)
                refine WL.store rfl rfl rfl rfl rfl rfl (hp11.obj 1 rfl) (cE_room kl hv) (fun w12 h12 => ?_)
                have hp12 : Hp w w12 (cpL ib lb ob ab ⟨ix, lw.set v (min (lw.getD v 0) (ix.getD u 0)), of0, at0.set v (at0.getD v 0 + 1), sk, v :: rest, ct, nm⟩ sa sc pa pc) := cE_set hp11 1 rfl rfl h12
                repeat (first | refine WC.seq ?_ | refine WC.reg ?_ | refine WL.pure rfl rfl rfl ?_ | refine WL.nil ?_ | refine WC.skip ?_ | refine WC.block ?_ | refine WC.condT rfl ?_ | refine WC.condF rfl ?_ | refine WL.off rfl rfl rfl ?_ | refine WL.off0 rfl rfl ?_ | refine WC.exit ?_ | refine blk_hit ?_ | refine blk_miss rfl ?_ | refine WC.ret ?_)
                exact ⟨(f0, ⟨ix, lw.set v (min (lw.getD v 0) (ix.getD u 0)), of0, at0.set v (at0.getD v 0 + 1), sk, v :: rest, ct, nm⟩, sa, sc, pa, pc), Nat.lt_succ_self f0, ⟨rfl, rfl, rfl, rfl, rfl, rfl, rfl, rfl, rfl, rfl, rfl, rfl, rfl⟩, hR2, ⟨ki, by simpa using kl, ko, by simpa using ka, kp, kk, kc, km, kkl, kpl⟩, hp12⟩
              · have c7 : ¬ of0.getD u 0 = 0 := by simpa using c7
                rw [if_neg c7] at hturn
                subst hturn
                repeat (first | refine WC.seq ?_ | refine WC.reg ?_ | refine WL.pure rfl rfl rfl ?_ | refine WL.nil ?_ | refine WC.skip ?_ | refine WC.block ?_ | refine WC.condT rfl ?_ | refine WC.condF rfl ?_ | refine WL.off rfl rfl rfl ?_ | refine WL.off0 rfl rfl ?_ | refine WC.exit ?_ | refine blk_hit ?_ | refine blk_miss rfl ?_ | refine WC.ret ?_)
                exact ⟨(f0, ⟨ix, lw, of0, at0.set v (at0.getD v 0 + 1), sk, v :: rest, ct, nm⟩, sa, sc, pa, pc), Nat.lt_succ_self f0, ⟨rfl, rfl, rfl, rfl, rfl, rfl, rfl, rfl, rfl, rfl, rfl, rfl, rfl⟩, hR2, ⟨ki, kl, ko, by simpa using ka, kp, kk, kc, km, kkl, kpl⟩, hp10⟩
          · have c5 : ¬ at0.getD v 0 < row.length := by have h : ¬ ((at0.getD v 0 : Nat) : Int) < ((row.length : Nat) : Int) := of_decide_eq_false c5; omega
            rw [if_neg c5] at hturn
            have hpc := hp8.capR 5 rfl
            repeat (first | refine WC.seq ?_ | refine WC.reg ?_ | refine WL.pure rfl rfl rfl ?_ | refine WL.nil ?_ | refine WC.skip ?_ | refine WC.block ?_ | refine WC.condT rfl ?_ | refine WC.condF rfl ?_ | refine WL.off rfl rfl rfl ?_ | refine WL.off0 rfl rfl ?_ | refine WC.exit ?_ | refine blk_hit ?_ | refine blk_miss rfl ?_ | refine WC.ret ?_)
            refine WL.known (d := 122) (congrArg (fun z => some (Value.int .i64 z)) e45) ?_
            refine WL.sliceHi (h := rest.length) rfl rfl rfl rfl rfl rfl (by have : rest.length + 1 ≤ pc := hpc; omega) ?_
            have hp9 : Hp w w8 [cE ib ix, cE lb lw, cE ob of0, cE ab at0, stE sa sc sk, stE pa pc rest] := hp8.rowCut 5 rfl (m := rest.length) (Nat.le_succ _) (by rw [top_take]; rfl)
            clear hp8
            refine WL.pure rfl rfl rfl ?_
            refine WL.nil ?_
            refine WC.seq ?_
            refine WC.mid Tj (fun s => (13, .int .i64 (v : Nat)) :: cpE (some ⟨ta, to, none⟩) cn N ib lb ob ab root s sa sc pa pc)
              (fun s w' => s = tjUp ⟨ix, lw, of0, at0, sk, v :: rest, ct, nm⟩ v rest ∧ TjOk N F s f0 ∧ s.number + (f0 + 1) ≤ F ∧ Hp w w' (cpL ib lb ob ab s sa sc pa pc)) ?_ ?_
            · repeat (first | refine WC.seq ?_ | refine WC.reg ?_ | refine WL.pure rfl rfl rfl ?_ | refine WL.nil ?_ | refine WC.skip ?_ | refine WC.block ?_ | refine WC.condT rfl ?_ | refine WC.condF rfl ?_ | refine WL.off rfl rfl rfl ?_ | refine WL.off0 rfl rfl ?_ | refine WC.exit ?_ | refine blk_hit ?_ | refine blk_miss rfl ?_ | refine WC.ret ?_)
              refine WC.cond rfl (fun c6 => ?_) (fun c6 => ?_)
              · obtain ⟨up, rest2, rfl⟩ : ∃ up rest2, rest = up :: rest2 := by
                  cases rest with
                  | nil => have := of_decide_eq_true c6; simp at this
                  | cons up rest2 => exact ⟨up, rest2, rfl⟩
                have hup : up < N := kp up (by simp)
                have e130 : IntKind.i64.wrap (((up :: rest2).length : Nat) - 1 : Int) = ((rest2.length : Nat) : Int) := by
                  simp only [List.length_cons] at kpl ⊢
                  rw [wrap_mid (by omega) (by omega)]; omega
                repeat (first | refine WC.seq ?_ | refine WC.reg ?_ | refine WL.pure rfl rfl rfl ?_ | refine WL.nil ?_ | refine WC.skip ?_ | refine WC.block ?_ | refine WC.condT rfl ?_ | refine WC.condF rfl ?_ | refine WL.off rfl rfl rfl ?_ | refine WL.off0 rfl rfl ?_ | refine WC.exit ?_ | refine blk_hit ?_ | refine blk_miss rfl ?_ | refine WC.ret ?_)
                refine WL.known (d := 130) (congrArg (fun z => some (Value.int .i64 z)) e130) ?_
                refine WL.ixload (j := rest2.length) rfl (fun _ => rfl) rfl rfl rfl rfl rfl rfl rfl (Nat.lt_succ_self _) rfl rfl (stE_sl hp9 5 rfl) (top_at up rest2) ?_
                intro q
                repeat (first | refine WC.seq ?_ | refine WC.reg ?_ | refine WL.pure rfl rfl rfl ?_ | refine WL.nil ?_ | refine WC.skip ?_ | refine WC.block ?_ | refine WC.condT rfl ?_ | refine WC.condF rfl ?_ | refine WL.off rfl rfl rfl ?_ | refine WL.off0 rfl rfl ?_ | refine WC.exit ?_ | refine blk_hit ?_ | refine blk_miss rfl ?_ | refine WC.ret ?_)
                refine WC.regS 12 mixed (by kernel_rfl) rfl rfl (fun w11 hw11 hh11 => ?_)
                have hp11 := hp9.keep hw11
                repeat (first | refine WS.pure rfl rfl rfl ?_ | refine WS.off rfl rfl rfl ?_ | refine WS.nil ?_)
                refine WS.ix1 rfl rfl rfl rfl rfl rfl rfl hup ?_
                refine WS.load rfl rfl rfl rfl rfl (Sl.cell (cE_sl hp11 1 rfl) (nd kl hup)) ?_
                repeat (first | refine WS.pure rfl rfl rfl ?_ | refine WS.off rfl rfl rfl ?_ | refine WS.nil ?_)
                refine WS.ix1 rfl rfl rfl rfl rfl rfl rfl hv ?_
                refine WS.load rfl rfl rfl rfl rfl (Sl.cell (cE_sl hp11 1 rfl) (nd kl hv)) ?_
                repeat (first | refine WS.pure rfl rfl rfl ?_ | refine WS.off rfl rfl rfl ?_ | refine WS.nil ?_)
                refine WS.known (d := 143) (congrArg (fun z => some (Value.int .i64 z)) (cast_min (lw.getD up 0) (lw.getD v 0))) ?_
                refine WS.ix1 rfl rfl rfl rfl rfl rfl rfl hup ?_
                rw [Nat.zero_add]
                repeat (first | refine WS.pure rfl rfl rfl ?_ | refine WS.off rfl rfl rfl ?_ | refine WS.nil ?_)
                refine WL.store rfl rfl rfl rfl rfl rfl (hp11.obj 1 rfl) (cE_room kl hup) (fun w12 h12 => ?_)
                have hp12 := cE_set hp11 1 rfl rfl h12
                repeat (first | refine WC.seq ?_ | refine WC.reg ?_ | refine WL.pure rfl rfl rfl ?_ | refine WL.nil ?_ | refine WC.skip ?_ | refine WC.block ?_ | refine WC.condT rfl ?_ | refine WC.condF rfl ?_ | refine WL.off rfl rfl rfl ?_ | refine WL.off0 rfl rfl ?_ | refine WC.exit ?_ | refine blk_hit ?_ | refine blk_miss rfl ?_ | refine WC.ret ?_)
                exact ⟨⟨ix, lw.set up (min (lw.getD up 0) (lw.getD v 0)), of0, at0, sk, up :: rest2, ct, nm⟩, ⟨rfl, rfl, rfl, rfl, rfl, rfl, rfl, rfl, rfl, rfl, rfl, rfl, rfl, rfl⟩, rfl, ⟨ki, by simpa using kl, ko, ka, fun x hx => kp x (List.mem_cons_of_mem _ hx), kk, kc, km, kkl, by simp only [List.length_cons] at kpl ⊢; omega⟩, hnm, hp12⟩
              · obtain rfl : rest = [] := by
                  cases rest with
                  | nil => rfl
                  | cons up rest2 => have := of_decide_eq_false c6; simp at this
                repeat (first | refine WC.seq ?_ | refine WC.reg ?_ | refine WL.pure rfl rfl rfl ?_ | refine WL.nil ?_ | refine WC.skip ?_ | refine WC.block ?_ | refine WC.condT rfl ?_ | refine WC.condF rfl ?_ | refine WL.off rfl rfl rfl ?_ | refine WL.off0 rfl rfl ?_ | refine WC.exit ?_ | refine blk_hit ?_ | refine blk_miss rfl ?_ | refine WC.ret ?_)
                exact ⟨⟨ix, lw, of0, at0, sk, [], ct, nm⟩, ⟨rfl, rfl, rfl, rfl, rfl, rfl, rfl, rfl, rfl, rfl, rfl, rfl, rfl, rfl⟩, rfl, ⟨ki, kl, ko, ka, fun x hx => (by cases hx), kk, kc, km, kkl, by simp only [List.length_cons, List.length_nil] at kpl ⊢; omega⟩, hnm, hp9⟩
            rintro s3 e9 w9 hsub ⟨hs3, hok, hnm, hp10⟩
            rw [← hs3] at hturn
            refine WC.sub hsub ?_
            clear hsub e9 hs3 hp9 ki kl ko ka kp kk kc km kkl kpl e45 hpc
            obtain ⟨ix, lw, of0, at0, sk, pth, ct, nm⟩ := s3
            obtain ⟨ki, kl, ko, ka, kp, kk, kc, km, kkl, kpl⟩ := hok
            simp only at ki kl ko ka kp kk kc km kkl kpl hnm
            replace hp10 : Hp w w9 (cpL ib lb ob ab ⟨ix, lw, of0, at0, sk, pth, ct, nm⟩ sa sc pa pc) := hp10
            unfold tjDone at hturn
            simp only at hturn
            refine WC.seq ?_
            refine WC.regQ (fun w' => Hp w w' (cpL ib lb ob ab ⟨ix, lw, of0, at0, sk, pth, ct, nm⟩ sa sc pa pc)) mixed (by kernel_rfl) (fun w' hw' => hp10.keep hw') ?_
            repeat (first | refine WQ.pure rfl rfl rfl ?_ | refine WQ.off rfl rfl rfl ?_ | refine WQ.nil ?_)
            refine WQ.ixload rfl (fun _ => rfl) rfl rfl rfl rfl rfl rfl rfl hv rfl rfl (fun w' h => Sl.cell (cE_sl h 1 rfl) (nd kl hv)) ?_
            repeat (first | refine WQ.pure rfl rfl rfl ?_ | refine WQ.off rfl rfl rfl ?_ | refine WQ.nil ?_)
            refine WQ.ixload rfl (fun _ => rfl) rfl rfl rfl rfl rfl rfl rfl hv rfl rfl (fun w' h => Sl.cell (cE_sl h 0 rfl) (nd ki hv)) ?_
            repeat (first | refine WQ.pure rfl rfl rfl ?_ | refine WQ.off rfl rfl rfl ?_ | refine WQ.nil ?_)
            intro w11 hp11
            clear hp10
            refine WC.cond rfl (fun c6 => ?_) (fun c6 => ?_)
            · have c6 : lw.getD v 0 = ix.getD v 0 := Int.ofNat_inj.1 (beq_iff_eq.1 c6)
              rw [if_pos c6] at hturn
              have stn := wrap_succ (i := nm) (n := nm + 1) (by omega) (by omega)
              cases hpop : popM v (nm + 1) sk of0 with
              | none => rw [hpop] at hturn; cases hturn
              | some ko2 =>
              obtain ⟨k2, o2⟩ := ko2
              rw [hpop] at hturn
              simp only [Option.some.injEq] at hturn
              subst hturn
              refine WC.seq ?_
              refine WC.reg ?_
              refine WL.pure rfl rfl rfl ?_
              refine WL.pure rfl rfl rfl ?_
              refine WL.known (d := 155) (congrArg (fun z => some (Value.int .i64 z)) stn) ?_
              repeat (first | refine WC.seq ?_ | refine WC.reg ?_ | refine WL.pure rfl rfl rfl ?_ | refine WL.nil ?_ | refine WC.skip ?_ | refine WC.block ?_ | refine WC.condT rfl ?_ | refine WC.condF rfl ?_ | refine WL.off rfl rfl rfl ?_ | refine WL.off0 rfl rfl ?_ | refine WC.exit ?_ | refine blk_hit ?_ | refine blk_miss rfl ?_ | refine WC.ret ?_)
              refine WC.loop (List Nat × List Nat × Option Addr × Nat) (fun (sk, o, sa, sc) => (13, .int .i64 (v : Nat)) :: cpE (some ⟨ta, to, none⟩) cn N ib lb ob ab root ⟨ix, lw, o, at0, sk, pth, ct, nm + 1⟩ sa sc pa pc)
                (fun (sk, o, sa, sc) w' => popM v (nm + 1) sk o = some (k2, o2) ∧ o.length = N ∧ (∀ x ∈ sk, x < N) ∧ sk.length + f0 ≤ F ∧ Hp w w' (cpL ib lb ob ab ⟨ix, lw, o, at0, sk, pth, ct, nm + 1⟩ sa sc pa pc)) (fun (sk, _) => sk.length) (sk, of0, sa, sc) ⟨rfl, rfl, rfl, rfl, rfl, rfl, rfl, rfl, rfl, rfl, rfl, rfl, rfl, rfl⟩ ⟨hpop, ko, kk, kkl, hp11⟩ ?_
              clear hp11 hpop kk kkl ko
              rintro ⟨sk, o, sa, sc⟩ w12 ⟨hpop, ko, kk, kkl, hp12⟩
              replace hpop : popM v (nm + 1) sk o = some (k2, o2) := hpop
              replace ko : o.length = N := ko
              replace kk : ∀ x ∈ sk, x < N := kk
              replace kkl : sk.length + f0 ≤ F := kkl
              replace hp12 : Hp w w12 (cpL ib lb ob ab ⟨ix, lw, o, at0, sk, pth, ct, nm + 1⟩ sa sc pa pc) := hp12
              repeat (first | refine WC.seq ?_ | refine WC.reg ?_ | refine WL.pure rfl rfl rfl ?_ | refine WL.nil ?_ | refine WC.skip ?_ | refine WC.block ?_ | refine WC.condT rfl ?_ | refine WC.condF rfl ?_ | refine WL.off rfl rfl rfl ?_ | refine WL.off0 rfl rfl ?_ | refine WC.exit ?_ | refine blk_hit ?_ | refine blk_miss rfl ?_ | refine WC.ret ?_)
              refine WL.ixload rfl (fun _ => rfl) rfl rfl rfl rfl rfl rfl rfl hv rfl rfl (cE_sl hp12 2 rfl) (nd ko hv) ?_
              intro q
              repeat (first | refine WC.seq ?_ | refine WC.reg ?_ | refine WL.pure rfl rfl rfl ?_ | refine WL.nil ?_ | refine WC.skip ?_ | refine WC.block ?_ | refine WC.condT rfl ?_ | refine WC.condF rfl ?_ | refine WL.off rfl rfl rfl ?_ | refine WL.off0 rfl rfl ?_ | refine WC.exit ?_ | refine blk_hit ?_ | refine blk_miss rfl ?_ | refine WC.ret ?_)
              refine WC.cond rfl (fun c7 => ?_) (fun c7 => ?_)
              · have d7 : o.getD v 0 = 0 := by simpa using c7
                obtain ⟨x, sk2, rfl⟩ : ∃ x sk2, sk = x :: sk2 := by
                  cases sk with
                  | nil => unfold popM at hpop; rw [if_pos d7] at hpop; cases hpop
                  | cons x sk2 => exact ⟨x, sk2, rfl⟩
                unfold popM at hpop
                rw [if_pos d7] at hpop
                have hxN : x < N := kk x (by simp)
                have hsc := hp12.capR 4 rfl
                have e165 : IntKind.i64.wrap (((x :: sk2).length : Nat) - 1 : Int) = ((sk2.length : Nat) : Int) := by
                  simp only [List.length_cons] at kkl ⊢
                  rw [wrap_mid (by omega) (by omega)]; omega
                repeat (first | refine WC.seq ?_ | refine WC.reg ?_ | refine WL.pure rfl rfl rfl ?_ | refine WL.nil ?_ | refine WC.skip ?_ | refine WC.block ?_ | refine WC.condT rfl ?_ | refine WC.condF rfl ?_ | refine WL.off rfl rfl rfl ?_ | refine WL.off0 rfl rfl ?_ | refine WC.exit ?_ | refine blk_hit ?_ | refine blk_miss rfl ?_ | refine WC.ret ?_)
                refine WL.known (d := 165) (congrArg (fun z => some (Value.int .i64 z)) e165) ?_
                refine WL.ixload (j := sk2.length) rfl (fun _ => rfl) rfl rfl rfl rfl rfl rfl rfl (Nat.lt_succ_self _) rfl rfl (stE_sl hp12 4 rfl) (top_at x sk2) ?_
                intro q
                refine WL.pure rfl rfl rfl ?_
                refine WL.ix1 rfl rfl rfl rfl rfl rfl rfl hxN ?_
                rw [Nat.zero_add]
                refine WL.store rfl rfl rfl rfl rfl rfl (hp12.obj 2 rfl) (cE_room ko hxN) (fun w13 h13 => ?_)
                have hp13 : Hp w w13 (cpL ib lb ob ab ⟨ix, lw, o.set x (nm + 1), at0, x :: sk2, pth, ct, nm + 1⟩ sa sc pa pc) := cE_set hp12 2 rfl rfl h13
                repeat (first | refine WC.seq ?_ | refine WC.reg ?_ | refine WL.pure rfl rfl rfl ?_ | refine WL.nil ?_ | refine WC.skip ?_ | refine WC.block ?_ | refine WC.condT rfl ?_ | refine WC.condF rfl ?_ | refine WL.off rfl rfl rfl ?_ | refine WL.off0 rfl rfl ?_ | refine WC.exit ?_ | refine blk_hit ?_ | refine blk_miss rfl ?_ | refine WC.ret ?_)
                refine WL.known (d := 173) (congrArg (fun z => some (Value.int .i64 z)) e165) ?_
                refine WL.sliceHi (h := sk2.length) rfl rfl rfl rfl rfl rfl (by have : sk2.length + 1 ≤ sc := hsc; omega) ?_
                have hp14 : Hp w w13 (cpL ib lb ob ab ⟨ix, lw, o.set x (nm + 1), at0, sk2, pth, ct, nm + 1⟩ sa sc pa pc) := hp13.rowCut 4 rfl (m := sk2.length) (Nat.le_succ _) (by rw [top_take]; rfl)
                repeat (first | refine WC.seq ?_ | refine WC.reg ?_ | refine WL.pure rfl rfl rfl ?_ | refine WL.nil ?_ | refine WC.skip ?_ | refine WC.block ?_ | refine WC.condT rfl ?_ | refine WC.condF rfl ?_ | refine WL.off rfl rfl rfl ?_ | refine WL.off0 rfl rfl ?_ | refine WC.exit ?_ | refine blk_hit ?_ | refine blk_miss rfl ?_ | refine WC.ret ?_)
                exact ⟨(sk2, o.set x (nm + 1), sa, sc), Nat.lt_succ_self sk2.length, ⟨rfl, rfl, rfl, rfl, rfl, rfl, rfl, rfl, rfl, rfl, rfl, rfl, rfl, rfl⟩, hpop, by simpa using ko, fun y hy => kk y (List.mem_cons_of_mem _ hy), by simp only [List.length_cons] at kkl; omega, hp14⟩
              · have d7 : ¬ o.getD v 0 = 0 := by simpa using c7
                have hpe : (sk, o) = (k2, o2) := by
                  cases sk with
                  | nil => unfold popM at hpop; rw [if_neg d7] at hpop; simpa using hpop
                  | cons x sk2 => unfold popM at hpop; rw [if_neg d7] at hpop; simpa using hpop
                simp only [Prod.mk.injEq] at hpe
                obtain ⟨rfl, rfl⟩ := hpe
                repeat (first | refine WC.seq ?_ | refine WC.reg ?_ | refine WL.pure rfl rfl rfl ?_ | refine WL.nil ?_ | refine WC.skip ?_ | refine WC.block ?_ | refine WC.condT rfl ?_ | refine WC.condF rfl ?_ | refine WL.off rfl rfl rfl ?_ | refine WL.off0 rfl rfl ?_ | refine WC.exit ?_ | refine blk_hit ?_ | refine blk_miss rfl ?_ | refine WC.ret ?_)
                exact ⟨(f0, ⟨ix, lw, o, at0, sk, pth, ct, nm + 1⟩, sa, sc, pa, pc), Nat.lt_succ_self f0, ⟨rfl, rfl, rfl, rfl, rfl, rfl, rfl, rfl, rfl, rfl, rfl, rfl, rfl⟩, hR2, ⟨ki, kl, ko, ka, kp, kk, kc, by show nm + 1 + f0 ≤ F; omega, kkl, kpl⟩, hp12⟩
            · have c6 : ¬ lw.getD v 0 = ix.getD v 0 := fun h => by rw [h] at c6; simp at c6
              rw [if_neg c6] at hturn
              simp only [Option.some.injEq] at hturn
              subst hturn
              repeat (first | refine WC.seq ?_ | refine WC.reg ?_ | refine WL.pure rfl rfl rfl ?_ | refine WL.nil ?_ | refine WC.skip ?_ | refine WC.block ?_ | refine WC.condT rfl ?_ | refine WC.condF rfl ?_ | refine WL.off rfl rfl rfl ?_ | refine WL.off0 rfl rfl ?_ | refine WC.exit ?_ | refine blk_hit ?_ | refine blk_miss rfl ?_ | refine WC.ret ?_)
              exact ⟨(f0, ⟨ix, lw, of0, at0, sk, pth, ct, nm⟩, sa, sc, pa, pc), Nat.lt_succ_self f0, ⟨rfl, rfl, rfl, rfl, rfl, rfl, rfl, rfl, rfl, rfl, rfl, rfl, rfl⟩, hR2, ⟨ki, kl, ko, ka, kp, kk, kc, km, kkl, kpl⟩, hp11⟩
        · have c3 : pth = [] := List.eq_nil_of_length_eq_zero (by have h : ¬ (0 : Int) < ((pth.length : Nat) : Int) := of_decide_eq_false c3; omega)
          subst c3
          rw [tjRun_nil rfl] at hR
          simp only [Option.some.injEq, Prod.mk.injEq] at hR
          obtain ⟨rfl, rfl⟩ := hR
          repeat (first | refine WC.seq ?_ | refine WC.reg ?_ | refine WL.pure rfl rfl rfl ?_ | refine WL.nil ?_ | refine WC.skip ?_ | refine WC.block ?_ | refine WC.condT rfl ?_ | refine WC.condF rfl ?_ | refine WL.off rfl rfl rfl ?_ | refine WL.off0 rfl rfl ?_ | refine WC.exit ?_ | refine blk_hit ?_ | refine blk_miss rfl ?_ | refine WC.ret ?_)
          exact ⟨(f, ⟨ix, lw, of0, at0, sk, [], ct, nm⟩, sa, sc, pa, pc), ⟨rfl, rfl, rfl, rfl, rfl, rfl, rfl, rfl, rfl, rfl, rfl, rfl, rfl⟩, hC, rfl, hok, hp6⟩
    rintro ⟨f, s, sa, sc, pa, pc⟩ e4 w4 hsub ⟨hC, hpn, hok, hp4⟩
    refine WC.sub hsub ?_
    repeat (first | refine WC.seq ?_ | refine WC.reg ?_ | refine WL.pure rfl rfl rfl ?_ | refine WL.nil ?_ | refine WC.skip ?_ | refine WC.block ?_ | refine WC.condT rfl ?_ | refine WC.condF rfl ?_ | refine WL.off rfl rfl rfl ?_ | refine WL.off0 rfl rfl ?_ | refine WC.exit ?_ | refine blk_hit ?_ | refine blk_miss rfl ?_ | refine WC.ret ?_)
    exact ⟨(root + 1, f, s, sa, sc, pa, pc), (by show N - (root + 1) < N - root; omega), ⟨rfl, rfl, rfl, rfl, rfl, rfl, rfl, rfl, rfl, rfl, rfl, congrArg (fun z => some (Value.int .i64 z)) step, rfl⟩, hr, hC, hpn, hok, hp4⟩
  · have hr : root = N := by have := of_decide_eq_false c1; omega
    subst hr
    rw [Nat.sub_self] at hC
    unfold compRoots at hC
    simp only [Option.some.injEq] at hC
    subst hC
    subst hsF
    repeat (first | refine WC.seq ?_ | refine WC.reg ?_ | refine WL.pure rfl rfl rfl ?_ | refine WL.nil ?_ | refine WC.skip ?_ | refine WC.block ?_ | refine WC.condT rfl ?_ | refine WC.condF rfl ?_ | refine WL.off rfl rfl rfl ?_ | refine WL.off0 rfl rfl ?_ | refine WC.exit ?_ | refine blk_hit ?_ | refine blk_miss rfl ?_ | refine WC.ret ?_)
    exact Res.one rfl rfl rfl ⟨ob, rfl, hok.o, hp3.pick [2] (by decide)⟩
end Go.Proofs.YtpbbneclkhfgoaaDoor
