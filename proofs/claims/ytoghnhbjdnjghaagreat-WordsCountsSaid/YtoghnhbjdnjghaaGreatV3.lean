/- The walks of normal forms. -/
import Derived.Test.YtoghnhbjdnjghaaGreatV2
namespace Go.Words
open Go.W
/-- A list without the entry at a number. -/
def dr (l : List Rl) (z : Int) : List Rl := if z < 0 then l else l.eraseIdx z.toNat
theorem dr_neg (l : List Rl) : dr l (-1) = l := if_pos (by decide)
theorem dr_nat (l : List Rl) (k : Nat) : dr l (k : Int) = l.eraseIdx k := by unfold dr; rw [if_neg (by omega), Int.toNat_natCast]
theorem dr_succ {l : List Rl} {j : Nat} (hj : j < l.length) (z : Int) : dr (l.take (j + 1)) z = dr (l.take j) z ++ (if (j : Int) = z then [] else [l[j]]) := by
  rw [List.take_succ_eq_append_getElem hj]
  have hl : (l.take j).length = j := by rw [List.length_take]; omega
  unfold dr
  by_cases hz : z < 0
  · rw [if_pos hz, if_pos hz, if_neg (by omega)]
  · rw [if_neg hz, if_neg hz]
    obtain ⟨k, rfl⟩ := Int.eq_ofNat_of_zero_le (show 0 ≤ z by omega)
    rw [Int.toNat_natCast]
    by_cases h1 : k < j
    · rw [List.eraseIdx_append_of_lt_length (by omega), if_neg (by omega)]
    · rw [List.eraseIdx_append_of_length_le (by omega), hl, List.eraseIdx_of_length_le (l := l.take j) (by omega)]
      by_cases h2 : k = j
      · subst h2
        rw [if_pos rfl, Nat.sub_self]; rfl
      · rw [if_neg (by omega)]
        obtain ⟨d, hd⟩ : ∃ d, k - j = d + 1 := ⟨k - j - 1, by omega⟩
        rw [hd]; rfl
theorem dr_rest (l : List Rl) (z : Int) (m : Nat) : ∃ B, dr l z = dr (l.take m) z ++ B := by
  unfold dr
  by_cases hz : z < 0
  · rw [if_pos hz, if_pos hz]
    exact ⟨l.drop m, (List.take_append_drop _ _).symm⟩
  · rw [if_neg hz, if_neg hz]
    have e1 := (List.take_append_drop m l).symm
    by_cases h1 : z.toNat < (l.take m).length
    · exact ⟨l.drop m, by conv => lhs; rw [e1]; rw [List.eraseIdx_append_of_lt_length h1]⟩
    · rw [List.eraseIdx_of_length_le (l := l.take m) (by omega)]
      exact ⟨(l.drop m).eraseIdx (z.toNat - (l.take m).length), by conv => lhs; rw [e1]; rw [List.eraseIdx_append_of_length_le (by omega)]⟩
theorem hit_app {A B : List Rl} {s : Str} {r : Rl} (h : hit A s = some r) : hit (A ++ B) s = some r := by
  unfold hit at *
  rw [List.find?_append, h]; rfl
theorem hit_snoc {A : List Rl} {s : Str} (h : hit A s = none) (r : Rl) : hit (A ++ [r]) s = if r.1.isPrefixOf s then some r else none := by
  unfold hit at *
  rw [List.find?_append, h]
  simp only [List.find?_cons, List.find?_nil, Option.none_or]
  split <;> simp_all
theorem dr_sub {l : List Rl} {z : Int} {r : Rl} (h : r ∈ dr l z) : r ∈ l := by
  unfold dr at h
  split at h
  · exact h
  · exact List.mem_of_mem_eraseIdx h
theorem Dn.dr {l : List Rl} (h : Dn l) (z : Int) : Dn (dr l z) := fun r hr => h r (dr_sub hr)
theorem normN_step {l : List Rl} {k n : Nat} {s : Str} {p : Nat × Rl} (h : firstM l s = some p) (hk : 0 < k) : normN l k n s = normN l (k - 1) (n + 1) (replM s p.1 p.2) := by
  obtain ⟨j, rfl⟩ : ∃ j, k = j + 1 := ⟨k - 1, by omega⟩
  rw [normN, h]; rfl
theorem normN_end {l : List Rl} {k n : Nat} {s : Str} (h : firstM l s = none) : normN l k n s = some (s, n) := by
  cases k <;> rw [normN, h]
theorem normN_out {l : List Rl} {n : Nat} {s : Str} {p : Nat × Rl} (h : firstM l s = some p) : normN l 0 n s = none := by
  rw [normN, h]
def norV : Option (Str × Nat) → Value
  | some (t, n) => .tuple #[st t, .int .i64 (n : Nat), .bool true]
  | none => .tuple #[st [], .int .i64 (0 : Nat), .bool false]
/-- What the reference's step hands back. -/
def stpV (s : Str) : Option (Nat × Rl) → Value
  | some (i, r) => .tuple #[st (replM s i r), .bool true]
  | none => .tuple #[st s, .bool false]
end Go.Words
namespace Go.Proofs.YtoghnhbjdnjghaaGreat
open Go.W Go.Words
set_option maxRecDepth 100000
attribute [local irreducible] WC WL WQ WS WH

theorem replaced_any (s : Str) (i : Nat) (r : Rl) (hr : i + r.1.length ≤ s.length) (hs : s.length + r.2.length ≤ 9223372036854775807) (w : World) :
    Ret Tryz.prog 65 [st s, .int .i64 (i : Nat), .agg #[st r.1, st r.2]] w fun u w' => u = st (replM s i r) ∧ Hp w w' [] := by
  have e1 : IntKind.i64.wrap ((i : Int) + ((r.1.length : Nat) : Int)) = ((i + r.1.length : Nat) : Int) := by rw [wrap_i64_in (by omega) (by omega)]; omega
  refine enter Tryz.func65 rfl rfl ⟨rfl, rfl⟩ rfl ?_
  repeat (first | refine WC.seq ?_ | refine WC.reg ?_ | refine WL.pure rfl rfl rfl ?_ | refine WL.nil ?_ | refine WC.skip ?_ | refine WC.block ?_ | refine WC.condT rfl ?_ | refine WC.condF rfl ?_ | refine WL.off rfl rfl rfl ?_ | refine WL.off0 rfl rfl ?_ | refine WC.exit ?_ | refine blk_hit ?_ | refine blk_miss rfl ?_ | refine WC.ret ?_)
  refine WL.box rfl rfl rfl ?_
  intro b1 w1 hb1
  have hp1 := (Hp.start w).new hb1
  repeat (first | refine WC.seq ?_ | refine WC.reg ?_ | refine WL.pure rfl rfl rfl ?_ | refine WL.nil ?_ | refine WC.skip ?_ | refine WC.block ?_ | refine WC.condT rfl ?_ | refine WC.condF rfl ?_ | refine WL.off rfl rfl rfl ?_ | refine WL.off0 rfl rfl ?_ | refine WC.exit ?_ | refine blk_hit ?_ | refine blk_miss rfl ?_ | refine WC.ret ?_)
  refine WC.regQ (fun w' => Hp w w' [.blk b1 (.cells #[st r.1, st r.2] 56 (0, 0))]) mixed (by kernel_rfl) (fun w' hw' => hp1.keep hw') ?_
  repeat (first | refine WQ.pure rfl rfl rfl ?_ | refine WQ.off rfl rfl rfl ?_ | refine WQ.nil ?_)
  refine WQ.sSl (a := 0) (b := i) rfl rfl rfl rfl rfl rfl (by omega) (by omega) ?_
  repeat (first | refine WQ.pure rfl rfl rfl ?_ | refine WQ.off rfl rfl rfl ?_ | refine WQ.nil ?_)
  refine WQ.load rfl rfl rfl rfl rfl (fun w' h => cell_of_obj (j := 1) (h.obj 0 rfl) rfl) ?_
  refine WQ.sCat rfl rfl rfl rfl (by rw [List.length_take]; omega) ?_
  repeat (first | refine WQ.pure rfl rfl rfl ?_ | refine WQ.off rfl rfl rfl ?_ | refine WQ.nil ?_)
  refine WQ.load rfl rfl rfl rfl rfl (fun w' h => cell_of_obj (j := 0) (h.obj 0 rfl) rfl) ?_
  repeat (first | refine WQ.pure rfl rfl rfl ?_ | refine WQ.off rfl rfl rfl ?_ | refine WQ.nil ?_)
  refine WQ.known (d := 18) (congrArg (fun z => some (Value.int .i64 z)) e1) ?_
  refine WQ.sSl (a := i + r.1.length) (b := s.length) rfl rfl rfl rfl rfl rfl hr (Nat.le_refl _) ?_
  refine WQ.sCat rfl rfl rfl rfl (by simp only [List.length_append, List.length_take, List.length_drop]; omega) ?_
  repeat (first | refine WQ.pure rfl rfl rfl ?_ | refine WQ.off rfl rfl rfl ?_ | refine WQ.nil ?_)
  intro w2 hp2
  repeat (first | refine WC.seq ?_ | refine WC.reg ?_ | refine WL.pure rfl rfl rfl ?_ | refine WL.nil ?_ | refine WC.skip ?_ | refine WC.block ?_ | refine WC.condT rfl ?_ | refine WC.condF rfl ?_ | refine WL.off rfl rfl rfl ?_ | refine WL.off0 rfl rfl ?_ | refine WC.exit ?_ | refine blk_hit ?_ | refine blk_miss rfl ?_ | refine WC.ret ?_)
  refine Res.one rfl rfl rfl ⟨?_, hp2.nil'⟩
  unfold replM
  rw [List.drop_zero, Nat.sub_zero, List.take_of_length_le (i := s.length - (i + r.1.length)) (by rw [List.length_drop]; omega), List.append_assoc]

theorem normal_any (a : Option Addr) (cap : Nat) (l : List Rl) (s : Str) (hlen : l.length ≤ 1000000) (hd : Dn l) (hl : s.length ≤ 1000000000) (hm : Sm 1000000000 l) (w : World) (hs : Sl w a (rcs l)) :
    Ret Tryz.prog 35 [.slice a l.length cap, st s] w fun u w' => u = norV (normM l s) ∧ Hp w w' [] := by
  refine enter Tryz.func35 rfl rfl ⟨rfl, rfl⟩ rfl ?_
  repeat (first | refine WC.seq ?_ | refine WC.reg ?_ | refine WL.pure rfl rfl rfl ?_ | refine WL.nil ?_ | refine WC.skip ?_ | refine WC.block ?_ | refine WC.condT rfl ?_ | refine WC.condF rfl ?_ | refine WL.off rfl rfl rfl ?_ | refine WL.off0 rfl rfl ?_ | refine WC.exit ?_ | refine blk_hit ?_ | refine blk_miss rfl ?_ | refine WC.ret ?_)
  refine WC.loop (Nat × Str) (fun (n, t) => [(0, .slice a l.length cap), (1, st t), (7, .int .i64 (n : Nat))])
    (fun (n, t) w' => Hp w w' [] ∧ n ≤ 20000 ∧ t.length ≤ s.length ∧ normM l s = normN l (20000 - n) n t) (fun (n, _) => 20001 - n) (0, s) ⟨rfl, rfl, rfl, rfl⟩ ⟨Hp.start w, Nat.zero_le _, Nat.le_refl _, rfl⟩ ?_
  rintro ⟨n, t⟩ w1 ⟨hp1, hn, ht, hN⟩
  repeat (first | refine WC.seq ?_ | refine WC.reg ?_ | refine WL.pure rfl rfl rfl ?_ | refine WL.nil ?_ | refine WC.skip ?_ | refine WC.block ?_ | refine WC.condT rfl ?_ | refine WC.condF rfl ?_ | refine WL.off rfl rfl rfl ?_ | refine WL.off0 rfl rfl ?_ | refine WC.exit ?_ | refine blk_hit ?_ | refine blk_miss rfl ?_ | refine WC.ret ?_)
  refine WL.call rfl rfl rfl rfl rfl ent64 (first_any a cap l t hlen (by omega) w1 (hs.hp hp1)) ?_
  rintro _ w2 ⟨rfl, hp2⟩
  have hp2 := hp1.over hp2
  cases hf : firstM l t with
  | none =>
    rw [normN_end hf] at hN
    repeat (first | refine WC.seq ?_ | refine WC.reg ?_ | refine WL.pure rfl rfl rfl ?_ | refine WL.nil ?_ | refine WC.skip ?_ | refine WC.block ?_ | refine WC.condT rfl ?_ | refine WC.condF rfl ?_ | refine WL.off rfl rfl rfl ?_ | refine WL.off0 rfl rfl ?_ | refine WC.exit ?_ | refine blk_hit ?_ | refine blk_miss rfl ?_ | refine WC.ret ?_)
    refine WL.alloc rfl rfl rfl ?_
    intro b9 w3 hb9
    have hp3 := hp2.new hb9
    repeat (first | refine WC.seq ?_ | refine WC.reg ?_ | refine WL.pure rfl rfl rfl ?_ | refine WL.nil ?_ | refine WC.skip ?_ | refine WC.block ?_ | refine WC.condT rfl ?_ | refine WC.condF rfl ?_ | refine WL.off rfl rfl rfl ?_ | refine WL.off0 rfl rfl ?_ | refine WC.exit ?_ | refine blk_hit ?_ | refine blk_miss rfl ?_ | refine WC.ret ?_)
    refine WL.storeN (vs := #[st [], st []]) (arr2 := #[st [], st []]) rfl rfl rfl rfl rfl (fun v hv => by
      simp only [List.mem_cons, List.not_mem_nil, or_false] at hv
      rcases hv with rfl | rfl <;> rfl) (hp3.obj 0 rfl) (Nat.le_refl 2) rfl (fun w4 hw4 => ?_)
    have hp4 := hp3.set 0 rfl rfl hw4
    repeat (first | refine WC.seq ?_ | refine WC.reg ?_ | refine WL.pure rfl rfl rfl ?_ | refine WL.nil ?_ | refine WC.skip ?_ | refine WC.block ?_ | refine WC.condT rfl ?_ | refine WC.condF rfl ?_ | refine WL.off rfl rfl rfl ?_ | refine WL.off0 rfl rfl ?_ | refine WC.exit ?_ | refine blk_hit ?_ | refine blk_miss rfl ?_ | refine WC.ret ?_)
    exact Res.three rfl rfl rfl rfl rfl ⟨by rw [hN]; rfl, hp4.nil'⟩
  | some p =>
    obtain ⟨i, r⟩ := p
    have hroom := firstM_room hf
    have hmem := (firstM_some hf).1
    have hlen2 := step_len hd hf
    have hmr := hm r hmem
    repeat (first | refine WC.seq ?_ | refine WC.reg ?_ | refine WL.pure rfl rfl rfl ?_ | refine WL.nil ?_ | refine WC.skip ?_ | refine WC.block ?_ | refine WC.condT rfl ?_ | refine WC.condF rfl ?_ | refine WL.off rfl rfl rfl ?_ | refine WL.off0 rfl rfl ?_ | refine WC.exit ?_ | refine blk_hit ?_ | refine blk_miss rfl ?_ | refine WC.ret ?_)
    refine WL.alloc rfl rfl rfl ?_
    intro b9 w3 hb9
    have hp3 := hp2.new hb9
    repeat (first | refine WC.seq ?_ | refine WC.reg ?_ | refine WL.pure rfl rfl rfl ?_ | refine WL.nil ?_ | refine WC.skip ?_ | refine WC.block ?_ | refine WC.condT rfl ?_ | refine WC.condF rfl ?_ | refine WL.off rfl rfl rfl ?_ | refine WL.off0 rfl rfl ?_ | refine WC.exit ?_ | refine blk_hit ?_ | refine blk_miss rfl ?_ | refine WC.ret ?_)
    refine WL.storeN (vs := #[st r.1, st r.2]) (arr2 := #[st r.1, st r.2]) rfl rfl rfl rfl rfl (fun v hv => by
      simp only [List.mem_cons, List.not_mem_nil, or_false] at hv
      rcases hv with rfl | rfl <;> rfl) (hp3.obj 0 rfl) (Nat.le_refl 2) rfl (fun w4 hw4 => ?_)
    have hp4 := hp3.set 0 rfl rfl hw4
    repeat (first | refine WC.seq ?_ | refine WC.reg ?_ | refine WL.pure rfl rfl rfl ?_ | refine WL.nil ?_ | refine WC.skip ?_ | refine WC.block ?_ | refine WC.condT rfl ?_ | refine WC.condF rfl ?_ | refine WL.off rfl rfl rfl ?_ | refine WL.off0 rfl rfl ?_ | refine WC.exit ?_ | refine blk_hit ?_ | refine blk_miss rfl ?_ | refine WC.ret ?_)
    refine WC.cond rfl (fun h1 => ?_) (fun h1 => ?_)
    · have h1 : n = 20000 := by
        have : ((n : Nat) : Int) = 20000 := by simpa using h1
        omega
      subst h1
      rw [Nat.sub_self, normN_out hf] at hN
      repeat (first | refine WC.seq ?_ | refine WC.reg ?_ | refine WL.pure rfl rfl rfl ?_ | refine WL.nil ?_ | refine WC.skip ?_ | refine WC.block ?_ | refine WC.condT rfl ?_ | refine WC.condF rfl ?_ | refine WL.off rfl rfl rfl ?_ | refine WL.off0 rfl rfl ?_ | refine WC.exit ?_ | refine blk_hit ?_ | refine blk_miss rfl ?_ | refine WC.ret ?_)
      exact Res.three rfl rfl rfl rfl rfl ⟨by rw [hN]; rfl, hp4.nil'⟩
    · have h1 : n < 20000 := by
        have : ¬ ((n : Nat) : Int) = 20000 := by simpa using h1
        omega
      have step := wrap_succ h1 (by omega)
      rw [normN_step hf (by omega), show 20000 - n - 1 = 20000 - (n + 1) by omega] at hN
      repeat (first | refine WC.seq ?_ | refine WC.reg ?_ | refine WL.pure rfl rfl rfl ?_ | refine WL.nil ?_ | refine WC.skip ?_ | refine WC.block ?_ | refine WC.condT rfl ?_ | refine WC.condF rfl ?_ | refine WL.off rfl rfl rfl ?_ | refine WL.off0 rfl rfl ?_ | refine WC.exit ?_ | refine blk_hit ?_ | refine blk_miss rfl ?_ | refine WC.ret ?_)
      refine WL.loadN (cs := [st r.1, st r.2]) rfl rfl rfl rfl rfl rfl (fun j v hj => by rw [Nat.zero_add]; exact cell_of_obj (hp4.obj 0 rfl) (by simpa using hj)) ?_
      refine WL.call rfl rfl rfl rfl rfl ent65 (replaced_any t i r hroom (by omega) w4) ?_
      rintro _ w5 ⟨rfl, hp5⟩
      repeat (first | refine WC.seq ?_ | refine WC.reg ?_ | refine WL.pure rfl rfl rfl ?_ | refine WL.nil ?_ | refine WC.skip ?_ | refine WC.block ?_ | refine WC.condT rfl ?_ | refine WC.condF rfl ?_ | refine WL.off rfl rfl rfl ?_ | refine WL.off0 rfl rfl ?_ | refine WC.exit ?_ | refine blk_hit ?_ | refine blk_miss rfl ?_ | refine WC.ret ?_)
      exact ⟨(n + 1, replM t i r), by show 20001 - (n + 1) < 20001 - n; omega, ⟨rfl, rfl, congrArg (fun z => some (Value.int .i64 z)) step, rfl⟩, hp4.nil'.over hp5, h1, by omega, hN⟩

/-- What the exported Normal hands back. -/
def NorV (l : List Rl) (s : Str) : Value :=
  if sysB l && strB s then match normM l s with
    | some (t, n) => .tuple #[st t, .int .i64 (n : Nat), .int .i64 0]
    | none => .tuple #[st [], .int .i64 (0 : Nat), .int .i64 5]
  else .tuple #[st [], .int .i64 (0 : Nat), .int .i64 2]
theorem Normal_any (a : Option Addr) (cap : Nat) (l : List Rl) (s : Str) (hm : Sm 9223372036854775807 l) (hl : s.length ≤ 9223372036854775807) (w : World) (hs : Sl w a (rcs l)) :
    Ret Tryz.prog 12 [.slice a l.length cap, st s] w fun u w' => u = NorV l s ∧ Hp w w' [] := by
  refine enter Tryz.func12 rfl rfl ⟨rfl, rfl⟩ rfl ?_
  repeat (first | refine WC.seq ?_ | refine WC.reg ?_ | refine WL.pure rfl rfl rfl ?_ | refine WL.nil ?_ | refine WC.skip ?_ | refine WC.block ?_ | refine WC.condT rfl ?_ | refine WC.condF rfl ?_ | refine WL.off rfl rfl rfl ?_ | refine WL.off0 rfl rfl ?_ | refine WC.exit ?_ | refine blk_hit ?_ | refine blk_miss rfl ?_ | refine WC.ret ?_)
  refine WL.call rfl rfl rfl rfl rfl ent33 (isSystem_any a cap l hm w hs) ?_
  rintro _ w1 ⟨rfl, hp1⟩
  repeat (first | refine WC.seq ?_ | refine WC.reg ?_ | refine WL.pure rfl rfl rfl ?_ | refine WL.nil ?_ | refine WC.skip ?_ | refine WC.block ?_ | refine WC.condT rfl ?_ | refine WC.condF rfl ?_ | refine WL.off rfl rfl rfl ?_ | refine WL.off0 rfl rfl ?_ | refine WC.exit ?_ | refine blk_hit ?_ | refine blk_miss rfl ?_ | refine WC.ret ?_)
  refine WL.split 13 rfl (fun h1 => ?_) (fun h1 => ?_)
  · have h1 : sysB l = false := by simpa using h1
    repeat (first | refine WC.seq ?_ | refine WC.reg ?_ | refine WL.pure rfl rfl rfl ?_ | refine WL.nil ?_ | refine WC.skip ?_ | refine WC.block ?_ | refine WC.condT rfl ?_ | refine WC.condF rfl ?_ | refine WL.off rfl rfl rfl ?_ | refine WL.off0 rfl rfl ?_ | refine WC.exit ?_ | refine blk_hit ?_ | refine blk_miss rfl ?_ | refine WC.ret ?_)
    exact Res.three rfl rfl rfl rfl rfl ⟨by unfold NorV; rw [h1]; rfl, hp1⟩
  · have h1 : sysB l = true := by simpa using h1
    repeat (first | refine WC.seq ?_ | refine WC.reg ?_ | refine WL.pure rfl rfl rfl ?_ | refine WL.nil ?_ | refine WC.skip ?_ | refine WC.block ?_ | refine WC.condT rfl ?_ | refine WC.condF rfl ?_ | refine WL.off rfl rfl rfl ?_ | refine WL.off0 rfl rfl ?_ | refine WC.exit ?_ | refine blk_hit ?_ | refine blk_miss rfl ?_ | refine WC.ret ?_)
    refine WL.callP rfl rfl rfl rfl rfl ent34 (isString_any s hl w1) ?_
    repeat (first | refine WC.seq ?_ | refine WC.reg ?_ | refine WL.pure rfl rfl rfl ?_ | refine WL.nil ?_ | refine WC.skip ?_ | refine WC.block ?_ | refine WC.condT rfl ?_ | refine WC.condF rfl ?_ | refine WL.off rfl rfl rfl ?_ | refine WL.off0 rfl rfl ?_ | refine WC.exit ?_ | refine blk_hit ?_ | refine blk_miss rfl ?_ | refine WC.ret ?_)
    refine WC.cond rfl (fun h2 => ?_) (fun h2 => ?_)
    · have h2 : strB s = false := by simpa using h2
      repeat (first | refine WC.seq ?_ | refine WC.reg ?_ | refine WL.pure rfl rfl rfl ?_ | refine WL.nil ?_ | refine WC.skip ?_ | refine WC.block ?_ | refine WC.condT rfl ?_ | refine WC.condF rfl ?_ | refine WL.off rfl rfl rfl ?_ | refine WL.off0 rfl rfl ?_ | refine WC.exit ?_ | refine blk_hit ?_ | refine blk_miss rfl ?_ | refine WC.ret ?_)
      exact Res.three rfl rfl rfl rfl rfl ⟨by unfold NorV; rw [h1, h2]; rfl, hp1⟩
    · have h2 : strB s = true := by simpa using h2
      have hln : l.length ≤ 64 := of_decide_eq_true (Bool.and_eq_true_iff.1 h1).1
      have hsn : s.length ≤ 200 := of_decide_eq_true (Bool.and_eq_true_iff.1 h2).1
      have hm2 : Sm 1000000000 l := fun r hr => ⟨by have := (sys_side h1 r hr).1; omega, by have := (sys_side h1 r hr).2; omega⟩
      repeat (first | refine WC.seq ?_ | refine WC.reg ?_ | refine WL.pure rfl rfl rfl ?_ | refine WL.nil ?_ | refine WC.skip ?_ | refine WC.block ?_ | refine WC.condT rfl ?_ | refine WC.condF rfl ?_ | refine WL.off rfl rfl rfl ?_ | refine WL.off0 rfl rfl ?_ | refine WC.exit ?_ | refine blk_hit ?_ | refine blk_miss rfl ?_ | refine WC.ret ?_)
      refine WL.call rfl rfl rfl rfl rfl ent35 (normal_any a cap l s (by omega) (sys_dn h1) (by omega) hm2 w1 (hs.hp hp1)) ?_
      rintro _ w2 ⟨rfl, hp2⟩
      cases hn : normM l s with
      | none =>
        repeat (first | refine WC.seq ?_ | refine WC.reg ?_ | refine WL.pure rfl rfl rfl ?_ | refine WL.nil ?_ | refine WC.skip ?_ | refine WC.block ?_ | refine WC.condT rfl ?_ | refine WC.condF rfl ?_ | refine WL.off rfl rfl rfl ?_ | refine WL.off0 rfl rfl ?_ | refine WC.exit ?_ | refine blk_hit ?_ | refine blk_miss rfl ?_ | refine WC.ret ?_)
        exact Res.three rfl rfl rfl rfl rfl ⟨by unfold NorV; rw [h1, h2, hn]; rfl, hp1.over hp2⟩
      | some p =>
        obtain ⟨t, n⟩ := p
        repeat (first | refine WC.seq ?_ | refine WC.reg ?_ | refine WL.pure rfl rfl rfl ?_ | refine WL.nil ?_ | refine WC.skip ?_ | refine WC.block ?_ | refine WC.condT rfl ?_ | refine WC.condF rfl ?_ | refine WL.off rfl rfl rfl ?_ | refine WL.off0 rfl rfl ?_ | refine WC.exit ?_ | refine blk_hit ?_ | refine blk_miss rfl ?_ | refine WC.ret ?_)
        exact Res.three rfl rfl rfl rfl rfl ⟨by unfold NorV; rw [h1, h2, hn]; rfl, hp1.over hp2⟩
end Go.Proofs.YtoghnhbjdnjghaaGreat
