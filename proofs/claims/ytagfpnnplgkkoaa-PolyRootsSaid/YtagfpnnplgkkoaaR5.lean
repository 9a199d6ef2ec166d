/- The walks of a sum: the closure, the list that combines two, the trimmed result. -/
import Derived.Test.YtagfpnnplgkkoaaR4
namespace Go.W
open Go.RowKit
/-- The first n places of a block of one's own, as a row. -/
theorem Hp.toRowN {w0 w : World} {b m s : Nat} {arr : Array Value} {E : TypeId} {L : List Ent} (n : Nat) (h : Hp w0 w (.blk b (.cells arr E (0, 0)) :: L)) (hs : arr.size = m * s) (hm : m ≤ maxLen) (hn : n ≤ m) :
    Hp w0 w (.row E s (.slice (some ⟨b, 0, none⟩) n m) n (arr.toList.take (n * s)) :: L) := by
  have h1 := List.pairwise_cons.1 h.dist
  have h2 := h.sat (.blk b (.cells arr E (0, 0))) (by simp)
  have hle : n * s ≤ arr.size := by rw [hs]; exact Nat.mul_le_mul_right _ hn
  refine ⟨h.below, ?_, List.pairwise_cons.2 ⟨fun y hy k hk => h1.1 y hy k ?_, h1.2⟩⟩
  · intro x hx
    rcases List.mem_cons.1 hx with hx | hx
    · subst hx
      exact ⟨by rw [List.length_take]; exact Nat.min_eq_left (by simpa using hle), .inr ⟨b, m, arr, rfl, h2.1, h2.2, hn, hm, hs, rfl⟩⟩
    · exact h.sat x (by simp [hx])
  · simp only [Ent.owns, Value.ownBlock] at hk ⊢
    simpa using hk
end Go.W
namespace Go.Proofs.Ytagfpnnplgkkoaa
open Go.W Go.Poly Go.Tree
set_option maxRecDepth 100000
attribute [local irreducible] WC WL WQ WS WH

theorem addC_any (p x y : Nat) (hp0 : 0 < p) (hp : p ≤ 1021) (hx : x < p) (hy : y < p) (b : Nat) (w : World) (hb : Sl w (some ⟨b, 0, none⟩) [.int .i64 (p : Nat)]) :
    Ret Try.prog 72 [.int .i64 (x : Nat), .int .i64 (y : Nat), .pointer (some ⟨b, 0, none⟩)] w fun u w' => u = .int .i64 ((x + y) % p : Nat) ∧ w' = w := by
  have e1 : IntKind.i64.wrap ((x : Int) + (y : Int)) = ((x + y : Nat) : Int) := by rw [wrap_i64_in (by omega) (by omega)]; omega
  have e2 : ((x + y : Nat) : Int) % (p : Int) = (((x + y) % p : Nat) : Int) := by omega
  refine enter Try.func72 rfl rfl ⟨rfl, rfl⟩ rfl ?_
  repeat (first | refine WC.seq ?_ | refine WC.reg ?_ | refine WL.pure rfl rfl rfl ?_ | refine WL.nil ?_ | refine WC.skip ?_ | refine WC.block ?_ | refine WC.condT rfl ?_ | refine WC.condF rfl ?_ | refine WL.off rfl rfl rfl ?_ | refine WL.off0 rfl rfl ?_ | refine WC.exit ?_ | refine blk_hit ?_ | refine blk_miss rfl ?_ | refine WC.ret ?_)
  refine WL.load rfl rfl rfl rfl rfl (Sl.cell (i := 0) hb rfl) ?_
  repeat (first | refine WC.seq ?_ | refine WC.reg ?_ | refine WL.pure rfl rfl rfl ?_ | refine WL.nil ?_ | refine WC.skip ?_ | refine WC.block ?_ | refine WC.condT rfl ?_ | refine WC.condF rfl ?_ | refine WL.off rfl rfl rfl ?_ | refine WL.off0 rfl rfl ?_ | refine WC.exit ?_ | refine blk_hit ?_ | refine blk_miss rfl ?_ | refine WC.ret ?_)
  refine WL.known (d := 9) (congrArg (fun z => some (Value.int .i64 z)) e1) ?_
  refine WL.callP rfl rfl rfl rfl rfl ent54 (mod_any p _ hp0 (by omega) _) ?_
  rw [e2]
  repeat (first | refine WC.seq ?_ | refine WC.reg ?_ | refine WL.pure rfl rfl rfl ?_ | refine WL.nil ?_ | refine WC.skip ?_ | refine WC.block ?_ | refine WC.condT rfl ?_ | refine WC.condF rfl ?_ | refine WL.off rfl rfl rfl ?_ | refine WL.off0 rfl rfl ?_ | refine WC.exit ?_ | refine blk_hit ?_ | refine blk_miss rfl ?_ | refine WC.ret ?_)
  exact Res.one rfl rfl rfl ⟨rfl, rfl⟩

theorem combine_any (aa ba : Option Addr) (ac bc : Nat) (f g : List Nat) (F : FuncId) (ca : Array Value) (op : Nat → Nat → Nat) (hE : Ents Try.prog F) (w : World) (sf : Sl w aa (ints f)) (sg_ : Sl w ba (ints g)) (hlf : f.length ≤ 1000) (hlg : g.length ≤ 1000)
    (hF : ∀ (i : Nat) (w' : World) (L : List Ent), Hp w w' L → Ret Try.prog F ([.int .i64 (co f i : Nat), .int .i64 (co g i : Nat)] ++ ca.toList) w' fun u w'' => u = .int .i64 (op (co f i) (co g i) : Nat) ∧ w'' = w') :
    Ret Try.prog 71 [.slice aa f.length ac, .slice ba g.length bc, .func (.func F) #[] ca] w fun u w' => ∃ b, u = .slice (some ⟨b, 0, none⟩) (max f.length g.length) (max f.length g.length) ∧
      Hp w w' [.blk b (.cells (ints (fl (max f.length g.length) fun i => op (co f i) (co g i))).toArray 3 (0, 0))] := by
  have hmax : max ((f.length : Nat) : Int) ((g.length : Nat) : Int) = ((max f.length g.length : Nat) : Int) := by omega
  have hN : max f.length g.length ≤ 1000 := by omega
  have hNf : f.length ≤ max f.length g.length := Nat.le_max_left _ _
  have hNg : g.length ≤ max f.length g.length := Nat.le_max_right _ _
  generalize max f.length g.length = N at *
  refine enter Try.func71 rfl rfl ⟨rfl, rfl⟩ rfl ?_
  repeat (first | refine WC.seq ?_ | refine WC.reg ?_ | refine WL.pure rfl rfl rfl ?_ | refine WL.nil ?_ | refine WC.skip ?_ | refine WC.block ?_ | refine WC.condT rfl ?_ | refine WC.condF rfl ?_ | refine WL.off rfl rfl rfl ?_ | refine WL.off0 rfl rfl ?_ | refine WC.exit ?_ | refine blk_hit ?_ | refine blk_miss rfl ?_ | refine WC.ret ?_)
  refine WL.known (d := 15) (congrArg (fun z => some (Value.int .i64 z)) hmax) ?_
  refine WL.make (m := N) rfl rfl rfl rfl rfl rfl rfl rfl ?_ ?_ ?_
  · show 8 * N ≤ _; omega
  · unfold maxLen; omega
  intro b w1 hb
  have hz : (List.replicate N ti3.zero) = ints (fl N fun m => if m < 0 then op (co f m) (co g m) else 0) := by
    rw [show ti3.zero = Value.int .i64 0 from rfl, ints_zero]
    exact congrArg ints (fl_congr fun m _ => by rw [if_neg (by omega)])
  rw [hz] at hb
  have hp1 := (Hp.start w).new hb
  repeat (first | refine WC.seq ?_ | refine WC.reg ?_ | refine WL.pure rfl rfl rfl ?_ | refine WL.nil ?_ | refine WC.skip ?_ | refine WC.block ?_ | refine WC.condT rfl ?_ | refine WC.condF rfl ?_ | refine WL.off rfl rfl rfl ?_ | refine WL.off0 rfl rfl ?_ | refine WC.exit ?_ | refine blk_hit ?_ | refine blk_miss rfl ?_ | refine WC.ret ?_)
  refine WC.loop Nat (fun i => [(0, .slice aa f.length ac), (1, .slice ba g.length bc), (2, .func (.func F) #[] ca), (7, .slice (some ⟨b, 0, none⟩) N N), (18, .int .i64 (N : Nat)), (19, .int .i64 (i : Nat))])
    (fun i w' => i ≤ N ∧ Hp w w' [.blk b (.cells (ints (fl N fun m => if m < i then op (co f m) (co g m) else 0)).toArray 3 (0, 0))]) (fun i => N - i) 0 ⟨rfl, rfl, rfl, rfl, rfl, rfl, rfl⟩ ⟨Nat.zero_le _, hp1⟩ ?_
  rintro i w2 ⟨hi, hp2⟩
  repeat (first | refine WC.seq ?_ | refine WC.reg ?_ | refine WL.pure rfl rfl rfl ?_ | refine WL.nil ?_ | refine WC.skip ?_ | refine WC.block ?_ | refine WC.condT rfl ?_ | refine WC.condF rfl ?_ | refine WL.off rfl rfl rfl ?_ | refine WL.off0 rfl rfl ?_ | refine WC.exit ?_ | refine blk_hit ?_ | refine blk_miss rfl ?_ | refine WC.ret ?_)
  refine WC.cond rfl (fun hc => ?_) (fun hc => ?_)
  · have hi : i < N := by have := of_decide_eq_true hc; omega
    have step : IntKind.i64.wrap ((i : Int) + 1) = ((i + 1 : Nat) : Int) := by rw [wrap_i64_in (by omega) (by omega)]; omega
    repeat (first | refine WC.seq ?_ | refine WC.reg ?_ | refine WL.pure rfl rfl rfl ?_ | refine WL.nil ?_ | refine WC.skip ?_ | refine WC.block ?_ | refine WC.condT rfl ?_ | refine WC.condF rfl ?_ | refine WL.off rfl rfl rfl ?_ | refine WL.off0 rfl rfl ?_ | refine WC.exit ?_ | refine blk_hit ?_ | refine blk_miss rfl ?_ | refine WC.ret ?_)
    refine WC.mid Unit (fun _ => [(0, .slice aa f.length ac), (1, .slice ba g.length bc), (2, .func (.func F) #[] ca), (7, .slice (some ⟨b, 0, none⟩) N N), (18, .int .i64 (N : Nat)), (19, .int .i64 (i : Nat)), (8, .int .i64 (i : Nat)), (9, .int .i64 (co f i : Nat)), (10, .int .i64 0)]) (fun _ w' => w' = w2) ?_ ?_
    · refine WC.cond rfl (fun h1 => ?_) (fun h1 => ?_)
      · have h1 : i < f.length := by have := of_decide_eq_true h1; omega
        repeat (first | refine WC.seq ?_ | refine WC.reg ?_ | refine WL.pure rfl rfl rfl ?_ | refine WL.nil ?_ | refine WC.skip ?_ | refine WC.block ?_ | refine WC.condT rfl ?_ | refine WC.condF rfl ?_ | refine WL.off rfl rfl rfl ?_ | refine WL.off0 rfl rfl ?_ | refine WC.exit ?_ | refine blk_hit ?_ | refine blk_miss rfl ?_ | refine WC.ret ?_)
        refine WL.ixload rfl (fun _ => rfl) rfl rfl rfl rfl rfl rfl rfl h1 rfl rfl (sf.hp hp2) (ints_at h1) ?_
        intro pa
        repeat (first | refine WC.seq ?_ | refine WC.reg ?_ | refine WL.pure rfl rfl rfl ?_ | refine WL.nil ?_ | refine WC.skip ?_ | refine WC.block ?_ | refine WC.condT rfl ?_ | refine WC.condF rfl ?_ | refine WL.off rfl rfl rfl ?_ | refine WL.off0 rfl rfl ?_ | refine WC.exit ?_ | refine blk_hit ?_ | refine blk_miss rfl ?_ | refine WC.ret ?_)
        exact ⟨(), ⟨rfl, rfl, rfl, rfl, rfl, rfl, rfl, rfl, rfl, rfl⟩, rfl⟩
      · have h1 : f.length ≤ i := by have := of_decide_eq_false h1; omega
        have e0 : (0 : Int) = ((co f i : Nat) : Int) := by rw [co_out h1]; rfl
        repeat (first | refine WC.seq ?_ | refine WC.reg ?_ | refine WL.pure rfl rfl rfl ?_ | refine WL.nil ?_ | refine WC.skip ?_ | refine WC.block ?_ | refine WC.condT rfl ?_ | refine WC.condF rfl ?_ | refine WL.off rfl rfl rfl ?_ | refine WL.off0 rfl rfl ?_ | refine WC.exit ?_ | refine blk_hit ?_ | refine blk_miss rfl ?_ | refine WC.ret ?_)
        exact ⟨(), ⟨rfl, rfl, rfl, rfl, rfl, rfl, rfl, congrArg (fun z => some (Value.int .i64 z)) e0, rfl, rfl⟩, rfl⟩
    rintro ⟨⟩ e3 w3 hsub rfl
    refine WC.sub hsub ?_
    clear hsub
    repeat (first | refine WC.seq ?_ | refine WC.reg ?_ | refine WL.pure rfl rfl rfl ?_ | refine WL.nil ?_ | refine WC.skip ?_ | refine WC.block ?_ | refine WC.condT rfl ?_ | refine WC.condF rfl ?_ | refine WL.off rfl rfl rfl ?_ | refine WL.off0 rfl rfl ?_ | refine WC.exit ?_ | refine blk_hit ?_ | refine blk_miss rfl ?_ | refine WC.ret ?_)
    refine WC.mid Unit (fun _ => [(0, .slice aa f.length ac), (1, .slice ba g.length bc), (2, .func (.func F) #[] ca), (7, .slice (some ⟨b, 0, none⟩) N N), (18, .int .i64 (N : Nat)), (19, .int .i64 (i : Nat)), (8, .int .i64 (i : Nat)), (9, .int .i64 (co f i : Nat)), (10, .int .i64 (co g i : Nat))]) (fun _ w' => w' = w3) ?_ ?_
    · refine WC.cond rfl (fun h1 => ?_) (fun h1 => ?_)
      · have h1 : i < g.length := by have := of_decide_eq_true h1; omega
        repeat (first | refine WC.seq ?_ | refine WC.reg ?_ | refine WL.pure rfl rfl rfl ?_ | refine WL.nil ?_ | refine WC.skip ?_ | refine WC.block ?_ | refine WC.condT rfl ?_ | refine WC.condF rfl ?_ | refine WL.off rfl rfl rfl ?_ | refine WL.off0 rfl rfl ?_ | refine WC.exit ?_ | refine blk_hit ?_ | refine blk_miss rfl ?_ | refine WC.ret ?_)
        refine WL.ixload rfl (fun _ => rfl) rfl rfl rfl rfl rfl rfl rfl h1 rfl rfl (sg_.hp hp2) (ints_at h1) ?_
        intro pa
        repeat (first | refine WC.seq ?_ | refine WC.reg ?_ | refine WL.pure rfl rfl rfl ?_ | refine WL.nil ?_ | refine WC.skip ?_ | refine WC.block ?_ | refine WC.condT rfl ?_ | refine WC.condF rfl ?_ | refine WL.off rfl rfl rfl ?_ | refine WL.off0 rfl rfl ?_ | refine WC.exit ?_ | refine blk_hit ?_ | refine blk_miss rfl ?_ | refine WC.ret ?_)
        exact ⟨(), ⟨rfl, rfl, rfl, rfl, rfl, rfl, rfl, rfl, rfl, rfl⟩, rfl⟩
      · have h1 : g.length ≤ i := by have := of_decide_eq_false h1; omega
        have e0 : (0 : Int) = ((co g i : Nat) : Int) := by rw [co_out h1]; rfl
        repeat (first | refine WC.seq ?_ | refine WC.reg ?_ | refine WL.pure rfl rfl rfl ?_ | refine WL.nil ?_ | refine WC.skip ?_ | refine WC.block ?_ | refine WC.condT rfl ?_ | refine WC.condF rfl ?_ | refine WL.off rfl rfl rfl ?_ | refine WL.off0 rfl rfl ?_ | refine WC.exit ?_ | refine blk_hit ?_ | refine blk_miss rfl ?_ | refine WC.ret ?_)
        exact ⟨(), ⟨rfl, rfl, rfl, rfl, rfl, rfl, rfl, rfl, congrArg (fun z => some (Value.int .i64 z)) e0, rfl⟩, rfl⟩
    rintro ⟨⟩ e4 w4 hsub rfl
    refine WC.sub hsub ?_
    clear hsub
    repeat (first | refine WC.seq ?_ | refine WC.reg ?_ | refine WL.pure rfl rfl rfl ?_ | refine WL.nil ?_ | refine WC.skip ?_ | refine WC.block ?_ | refine WC.condT rfl ?_ | refine WC.condF rfl ?_ | refine WL.off rfl rfl rfl ?_ | refine WL.off0 rfl rfl ?_ | refine WC.exit ?_ | refine blk_hit ?_ | refine blk_miss rfl ?_ | refine WC.ret ?_)
    refine WL.callP rfl rfl rfl rfl rfl hE (hF i w4 _ hp2) ?_
    refine WL.ix1 rfl rfl rfl rfl rfl rfl rfl (j := i) hi ?_
    refine WL.store rfl rfl rfl rfl rfl rfl (hp2.obj 0 rfl) (by simp [ints, fl]; omega) (fun w5 hw5 => ?_)
    have e1 : (fl N fun m => if m < i then op (co f m) (co g m) else 0).set i (op (co f i) (co g i)) = fl N fun m => if m < i + 1 then op (co f m) (co g m) else 0 := by
      rw [fl_set]
      refine fl_congr fun m _ => ?_
      by_cases h : m = i
      · subst h; rw [if_pos rfl, if_pos (by omega)]
      · rw [if_neg h]
        by_cases h1 : m < i
        · rw [if_pos h1, if_pos (by omega)]
        · rw [if_neg h1, if_neg (by omega)]
    rw [Nat.zero_add, ints_set, e1] at hw5
    have hp5 := hp2.set 0 rfl rfl hw5
    repeat (first | refine WC.seq ?_ | refine WC.reg ?_ | refine WL.pure rfl rfl rfl ?_ | refine WL.nil ?_ | refine WC.skip ?_ | refine WC.block ?_ | refine WC.condT rfl ?_ | refine WC.condF rfl ?_ | refine WL.off rfl rfl rfl ?_ | refine WL.off0 rfl rfl ?_ | refine WC.exit ?_ | refine blk_hit ?_ | refine blk_miss rfl ?_ | refine WC.ret ?_)
    exact ⟨i + 1, by show N - (i + 1) < N - i; omega, ⟨rfl, rfl, rfl, rfl, rfl, congrArg (fun z => some (Value.int .i64 z)) step, rfl⟩, hi, hp5⟩
  · have hi : i = N := by have := of_decide_eq_false hc; omega
    have e1 : (fl N fun m => if m < i then op (co f m) (co g m) else 0) = fl N fun m => op (co f m) (co g m) := fl_congr fun m hm => by rw [if_pos (by omega)]
    rw [e1] at hp2
    repeat (first | refine WC.seq ?_ | refine WC.reg ?_ | refine WL.pure rfl rfl rfl ?_ | refine WL.nil ?_ | refine WC.skip ?_ | refine WC.block ?_ | refine WC.condT rfl ?_ | refine WC.condF rfl ?_ | refine WL.off rfl rfl rfl ?_ | refine WL.off0 rfl rfl ?_ | refine WC.exit ?_ | refine blk_hit ?_ | refine blk_miss rfl ?_ | refine WC.ret ?_)
    exact Res.one rfl rfl rfl ⟨b, rfl, hp2⟩

theorem add_any (fa ga : Option Addr) (fc gc p : Nat) (f g : List Nat) (hp0 : 0 < p) (hp : p ≤ 1021) (hf : ∀ i, co f i < p) (hg : ∀ i, co g i < p) (hlf : f.length ≤ 1000) (hlg : g.length ≤ 1000) (w : World) (sf : Sl w fa (ints f)) (sg_ : Sl w ga (ints g)) :
    Ret Try.prog 41 [.int .i64 (p : Nat), .slice fa f.length fc, .slice ga g.length gc] w fun u w' => ∃ a c, u = .slice a (addL p f g).length c ∧ Hp w w' [.row 3 1 (.slice a (addL p f g).length c) (addL p f g).length (ints (addL p f g))] := by
  refine enter Try.func41 rfl rfl ⟨rfl, rfl⟩ rfl ?_
  repeat (first | refine WC.seq ?_ | refine WC.reg ?_ | refine WL.pure rfl rfl rfl ?_ | refine WL.nil ?_ | refine WC.skip ?_ | refine WC.block ?_ | refine WC.condT rfl ?_ | refine WC.condF rfl ?_ | refine WL.off rfl rfl rfl ?_ | refine WL.off0 rfl rfl ?_ | refine WC.exit ?_ | refine blk_hit ?_ | refine blk_miss rfl ?_ | refine WC.ret ?_)
  refine WL.box rfl rfl rfl ?_
  intro b3 w1 hb3
  have hp1 := (Hp.start w).new hb3
  have hcell : Sl w1 (some ⟨b3, 0, none⟩) [.int .i64 (p : Nat)] := Sl.of_obj (hp1.obj 0 rfl) (fun q u hq => by simpa [Value.cells] using hq)
  repeat (first | refine WC.seq ?_ | refine WC.reg ?_ | refine WL.pure rfl rfl rfl ?_ | refine WL.nil ?_ | refine WC.skip ?_ | refine WC.block ?_ | refine WC.condT rfl ?_ | refine WC.condF rfl ?_ | refine WL.off rfl rfl rfl ?_ | refine WL.off0 rfl rfl ?_ | refine WC.exit ?_ | refine blk_hit ?_ | refine blk_miss rfl ?_ | refine WC.ret ?_)
  refine WL.call rfl rfl rfl rfl rfl ent71 (combine_any fa ga fc gc f g 72 #[.pointer (some ⟨b3, 0, none⟩)] (fun x y => (x + y) % p) ent72 w1 (sf.hp hp1) (sg_.hp hp1) hlf hlg
    (fun i w' L hL => addC_any p _ _ hp0 hp (hf i) (hg i) b3 w' (hcell.hp hL))) ?_
  rintro _ w2 ⟨b, rfl, hp2⟩
  have hp2 := (hp1.comb hp2).drop1
  have hlm : max f.length g.length ≤ 1000 := by omega
  have hadd : addL p f g = trimL (fl (max f.length g.length) fun i => (co f i + co g i) % p) := rfl
  generalize hs : (fl (max f.length g.length) fun i => (co f i + co g i) % p) = s at *
  have hsl : s.length = max f.length g.length := by rw [← hs, fl_len]
  rw [← hsl] at hlm ⊢
  have htr := trim_any (some ⟨b, 0, none⟩) s.length s (Nat.le_refl _) (by omega) w2 (Sl.of_obj (hp2.obj 0 rfl) (fun q u hq => by simpa using hq))
  refine WL.call rfl rfl rfl rfl rfl ent70 htr ?_
  rintro _ w3 ⟨rfl, rfl⟩
  have htl := trim_len s
  have hle := tn_le s s.length
  have hp3 := hp2.toRowN (m := s.length) (s := 1) (trimL s).length (by simp [ints]) (by unfold maxLen; omega) (by omega)
  have e4 : (ints s).toArray.toList.take ((trimL s).length * 1) = ints (trimL s) := by
    rw [Nat.mul_one, htl]
    show (ints s).take (tn s s.length) = _
    rw [ints_take]; rfl
  rw [e4] at hp3
  repeat (first | refine WC.seq ?_ | refine WC.reg ?_ | refine WL.pure rfl rfl rfl ?_ | refine WL.nil ?_ | refine WC.skip ?_ | refine WC.block ?_ | refine WC.condT rfl ?_ | refine WC.condF rfl ?_ | refine WL.off rfl rfl rfl ?_ | refine WL.off0 rfl rfl ?_ | refine WC.exit ?_ | refine blk_hit ?_ | refine blk_miss rfl ?_ | refine WC.ret ?_)
  exact Res.one rfl rfl rfl ⟨some ⟨b, 0, none⟩, s.length, by rw [hadd], by rw [hadd]; exact hp3⟩
end Go.Proofs.Ytagfpnnplgkkoaa
