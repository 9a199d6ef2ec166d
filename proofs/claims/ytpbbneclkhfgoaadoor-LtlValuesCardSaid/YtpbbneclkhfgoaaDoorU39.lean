/- ltl, thirty-ninth: the reference's Value. -/
import Derived.Test.YtpbbneclkhfgoaaDoorU34
import Derived.Test.YtpbbneclkhfgoaaDoorU38
import Derived.Test.YtpbbneclkhfgoaaDoorU29
import Derived.Test.YtpbbneclkhfgoaaDoorYl
namespace Go.Proofs.YtpbbneclkhfgoaaDoor
open Go.W Go.Ltl Go.RowKit
set_option maxRecDepth 100000
set_option linter.unusedSectionVars false
attribute [local irreducible] WC WL WQ WS WH

theorem permHp {w0 w : World} {L L' : List Ent} (h : Hp w0 w L) (p : L.Perm L') : Hp w0 w L' :=
  ⟨h.below, fun x hx => h.sat x (p.mem_iff.2 hx), (p.pairwise_iff (fun {_a _b} h => Apart.symm h)).1 h.dist⟩
/-- Rows of bools in their own blocks. -/
abbrev Bvs := List (Nat × List Bool)
def bvV (n : Nat) (bs : Bvs) : List Value := bs.map fun x => .slice (some ⟨x.1, 0, none⟩) n n
def bvE (bs : Bvs) : List Ent := bs.map fun x => Lb x.1 x.2
abbrev Rbv (n : Nat) (v : Value) (bs : Bvs) : Ent := .row 90 1 v bs.length (bvV n bs)
theorem bvV_at {n : Nat} {bs : Bvs} {a : Nat} (h : a < bs.length) : (bvV n bs)[a]? = some (.slice (some ⟨bs[a].1, 0, none⟩) n n) := by simp [bvV, h]
theorem bvE_at {bs : Bvs} {a : Nat} (h : a < bs.length) : nth (bvE bs) a = some (Lb bs[a].1 bs[a].2) := by rw [nth_eq]; simp [bvE, h]
theorem bag_cell {w0 w : World} {X Y Z : Ent} {bs : Bvs} {a k : Nat} (hp : Hp w0 w (X :: Y :: Z :: bvE bs)) (ha : a < bs.length) (hk : k < bs[a].2.length) : w.cell? ⟨bs[a].1, 0 + k, none⟩ = some (.bool (bs[a].2.getD k false)) := by
  rw [Nat.zero_add]
  exact cell_of_obj (hp.obj (a + 3) (show nth (bvE bs) a = some (Lb bs[a].1 bs[a].2) from bvE_at ha)) (by rw [List.getElem?_toArray]; exact bl_at hk)
def InvB (l : List Nd) (ms : List Int) (lp : Nat) (bs : Bvs) : Prop := ∀ j x, bs[j]? = some x → x.2.length = ms.length ∧ ∀ g, wfF g → AtN l j g → x.2 = valsM ms lp g
def KindR (bs : Bvs) (s : Str) (A B : Int) (Av Bv : List Bool) : Prop := (s ∈ atomsL ∧ A = -1 ∧ B = -1 ∧ Av = [] ∧ Bv = []) ∨ (s ∈ onesL ∧ ∃ a : Nat, ∃ h : a < bs.length, A = (a : Int) ∧ B = -1 ∧ Av = bs[a].2 ∧ Bv = []) ∨
  (s ∈ twosL ∧ ∃ a b : Nat, ∃ h : a < bs.length, ∃ h2 : b < bs.length, A = (a : Int) ∧ B = (b : Int) ∧ Av = bs[a].2 ∧ Bv = bs[b].2)
theorem kind_of {l : List Nd} {bs : Bvs} {s : Str} {A B : Int} (h : OkN l) (hx : l[bs.length]? = some (s, A, B)) : ∃ Av Bv, KindR bs s A B Av Bv := by
  rcases h _ _ hx with ⟨h1, h2⟩ | ⟨h1, a, ha, h2⟩ | ⟨h1, a, b, ha, hb, h2⟩
  · exact ⟨[], [], .inl ⟨h1, congrArg Prod.fst h2, congrArg Prod.snd h2, rfl, rfl⟩⟩
  · exact ⟨bs[a].2, [], .inr (.inl ⟨h1, a, ha, congrArg Prod.fst h2, congrArg Prod.snd h2, rfl, rfl⟩)⟩
  · exact ⟨bs[a].2, bs[b].2, .inr (.inr ⟨h1, a, b, ha, hb, congrArg Prod.fst h2, congrArg Prod.snd h2, rfl, rfl⟩)⟩
theorem InvB_snoc {l : List Nd} {ms : List Int} {lp : Nat} {bs : Bvs} {s : Str} {A B : Int} {Av Bv : List Bool} (hlp : lp < ms.length) (hi : InvB l ms lp bs) (hx : l[bs.length]? = some (s, A, B)) (hK : KindR bs s A B Av Bv) (ob : Nat) :
    InvB l ms lp (bs ++ [(ob, nodeR s Av Bv ms lp)]) := by
  intro j y hy
  by_cases hj : j < bs.length
  · rw [List.getElem?_append_left hj] at hy
    exact hi j y hy
  have hl := (List.getElem?_eq_some_iff.1 hy).1
  rw [List.length_append] at hl
  have hj2 : j = bs.length := by simp only [List.length_cons, List.length_nil] at hl; omega
  subst hj2
  rw [List.getElem?_append_right (Nat.le_refl _), Nat.sub_self] at hy
  obtain rfl : (ob, nodeR s Av Bv ms lp) = y := by simpa using hy
  refine ⟨nodeR_len s Av Bv ms hlp, fun g hwf hat => ?_⟩
  cases g with
  | at_ w =>
    have h1 : some (s, A, B) = some (w, (-1 : Int), (-1 : Int)) := hx.symm.trans hat
    obtain rfl : s = w := by simpa using congrArg (fun z => z.map Prod.fst) h1
    exact nodeR_at hwf Av Bv ms hlp
  | on_ w f =>
    obtain ⟨a', h0, h2⟩ := hat
    obtain ⟨hw, hf⟩ : w ∈ onesL ∧ wfF f := hwf
    have h1 : some (s, A, B) = some (w, (a' : Int), (-1 : Int)) := hx.symm.trans h0
    simp only [Option.some.injEq, Prod.mk.injEq] at h1
    obtain ⟨rfl, hA, hB⟩ := h1
    show nodeR s Av Bv ms lp = onM s (valsM ms lp f) ms.length lp
    rw [nodeR_on hw Av Bv ms hlp]
    rcases hK with ⟨_, k1, _⟩ | ⟨_, a, ha, k1, _, k3, _⟩ | ⟨_, a, b, ha, hb, k1, k2, _⟩
    · omega
    · obtain rfl : a = a' := by omega
      rw [k3, (hi a bs[a] (List.getElem?_eq_getElem ha)).2 f hf h2]
    · omega
  | tw_ w f g =>
    obtain ⟨a', b', h0, h2, h3⟩ := hat
    obtain ⟨hw, hf, hg⟩ : w ∈ twosL ∧ wfF f ∧ wfF g := hwf
    have h1 : some (s, A, B) = some (w, (a' : Int), (b' : Int)) := hx.symm.trans h0
    simp only [Option.some.injEq, Prod.mk.injEq] at h1
    obtain ⟨rfl, hA, hB⟩ := h1
    show nodeR s Av Bv ms lp = twM s (valsM ms lp f) (valsM ms lp g) ms.length lp
    rw [nodeR_tw hw Av Bv ms hlp]
    rcases hK with ⟨_, k1, _⟩ | ⟨_, a, ha, k1, k2, k3, _⟩ | ⟨_, a, b, ha, hb, k1, k2, k3, k4⟩
    · omega
    · omega
    · obtain rfl : a = a' := by omega
      obtain rfl : b = b' := by omega
      rw [k3, k4, (hi a bs[a] (List.getElem?_eq_getElem ha)).2 f hf h2, (hi b bs[b] (List.getElem?_eq_getElem hb)).2 g hg h3]
def itR (s : Str) (A B : List Bool) (ms : List Int) (lp : Nat) : Nat → List Bool
  | 0 => startR s ms.length lp
  | p + 1 => passM (gR s A B ms lp) ms.length lp ms.length (itR s A B ms lp p)
theorem itR_len (s : Str) (A B : List Bool) (ms : List Int) {lp : Nat} (h : lp < ms.length) : ∀ p, (itR s A B ms lp p).length = ms.length := by
  intro p
  induction p with
  | zero => exact startR_len s h
  | succ p ih => rw [itR, passM_len, ih]
theorem start_is {s : Str} {n lp : Nat} {c : List Bool} (h : lp < n) (hl : c.length = n) (hc : ∀ q, c.getD q false = (decide (lp ≤ q ∧ q < n) && !leastR s)) : c = startR s n lp := by
  show c = List.replicate lp false ++ List.replicate (n - lp) (!leastR s)
  have hle : c.length = (List.replicate lp false ++ List.replicate (n - lp) (!leastR s)).length := hl.trans (startR_len s h).symm
  apply List.ext_getElem hle
  intro q hq hq2
  have h1 := hc q
  rw [List.getD_eq_getElem?_getD, List.getElem?_eq_getElem hq] at h1
  have h2 : c[q] = (decide (lp ≤ q ∧ q < n) && !leastR s) := h1
  rw [h2]
  by_cases h3 : q < lp
  · rw [List.getElem_append_left (by rw [List.length_replicate]; exact h3), List.getElem_replicate, decide_eq_false (by omega)]; rfl
  · rw [List.getElem_append_right (by rw [List.length_replicate]; omega), List.getElem_replicate, decide_eq_true (by omega)]; rfl
/-- A node as a block. -/
abbrev Ndb (b : Nat) (s : Str) (A B : Int) : Ent := .blk b (.cells #[st s, .int .i64 A, .int .i64 B] 98 (0, 0))
theorem RValue_any (l : List Nd) (fa : Option Addr) (fc : Nat) (f : Fm) (hl : l.length = sizeF f) (hwf : wfF f) (hok : OkN l) (hat : AtN l (sizeF f - 1) f) (hsz : sizeF f ≤ 1000) (a1 a2 : Option Addr) (c1 c2 : Nat) (l1 l2 : List Int) (h1 : l1.length ≤ 100000) (h2 : l2.length ≤ 100000) (h0 : l2 ≠ [])
    (hm : ∀ m ∈ l1 ++ l2, 0 ≤ m ∧ m ≤ 15) (w : World) (hf : Sl w fa (ndC l)) (hs1 : Sl w a1 (zs l1)) (hs2 : Sl w a2 (zs l2)) :
    Ret Tryd.prog 21 [.slice fa l.length fc, .slice a1 l1.length c1, .slice a2 l2.length c2] w fun v w' => v = .bool ((valsM (l1 ++ l2) l1.length f).getD 0 false) ∧ Hp w w' [] := by
  refine enter Tryd.func21 rfl rfl ⟨rfl, rfl⟩ rfl ?_
  have hl2 : 0 < l2.length := List.length_pos_iff.2 h0
  have hpos := sizeF_pos f
  have hp0 : Hp w w (.row 3 1 (.slice none 0 0) 0 [] :: []) := (Hp.start w).nilrow 3 1
  repeat (first | refine WC.seq ?_ | refine WC.reg ?_ | refine WL.pure rfl rfl rfl ?_ | refine WL.nil ?_ | refine WC.skip ?_ | refine WC.block ?_ | refine WC.condT rfl ?_ | refine WC.condF rfl ?_ | refine WL.off rfl rfl rfl ?_ | refine WL.off0 rfl rfl ?_ | refine WC.exit ?_ | refine blk_hit ?_ | refine blk_miss rfl ?_ | refine WC.ret ?_)
  refine WL.append 0 hp0 rfl rfl rfl rfl rfl (by decide) rfl rfl rfl (news := zs l1) hs1 (by rw [zs_len]; exact (Nat.mul_one _).symm) (zs_cells _) (by unfold maxLen; show 0 + l1.length ≤ _; omega) (by show (0 + l1.length) * 8 ≤ _; omega) ?_
  intro pa pc w1 hp1 _
  replace hp1 : Hp w w1 (.row 3 1 (.slice pa (0 + l1.length) pc) (0 + l1.length) ([] ++ zs l1) :: []) := hp1
  rw [Nat.zero_add, List.nil_append] at hp1
  replace hp1 : Hp w w1 [Ri (.slice pa l1.length pc) l1] := hp1
  rw [show 0 + l1.length = l1.length from Nat.zero_add _]
  repeat (first | refine WC.seq ?_ | refine WC.reg ?_ | refine WL.pure rfl rfl rfl ?_ | refine WL.nil ?_ | refine WC.skip ?_ | refine WC.block ?_ | refine WC.condT rfl ?_ | refine WC.condF rfl ?_ | refine WL.off rfl rfl rfl ?_ | refine WL.off0 rfl rfl ?_ | refine WC.exit ?_ | refine blk_hit ?_ | refine blk_miss rfl ?_ | refine WC.ret ?_)
  refine WL.append 0 hp1 rfl rfl rfl rfl rfl (by decide) rfl rfl rfl (news := zs l2) (hs2.hp hp1) (by rw [zs_len]; exact (Nat.mul_one _).symm) (zs_cells _) (by unfold maxLen; show l1.length + l2.length ≤ _; omega) (by show (l1.length + l2.length) * 8 ≤ _; omega) ?_
  intro pm pmc w2 hp2 _
  obtain ⟨ms, hms⟩ : ∃ ms, ms = l1 ++ l2 := ⟨_, rfl⟩
  obtain ⟨lp, hlpe⟩ : ∃ lp, lp = l1.length := ⟨_, rfl⟩
  have hml : ms.length = l1.length + l2.length := by rw [hms, List.length_append]
  have hlp : lp < ms.length := by omega
  have hS : Sl w2 pm (zs ms) := by
    have h : Sl w2 pm (zs l1 ++ zs l2) := Sl.of_row (hp2.at 0 rfl)
    rw [hms]
    unfold zs at h ⊢
    rw [List.map_append]
    exact h
  have hp2n : Hp w w2 [] := hp2.nil'
  have hf2 : Sl w2 fa (ndC l) := hf.hp hp2n
  rw [← hms, ← hml, ← hlpe]
  rw [← hms] at hm
  clear hp2 hp1 hp0
  have hms63 : ms.length ≤ 200000 := by omega
  obtain ⟨mb, mo, rfl, _⟩ := hS 0 _ (zs_at (xs := ms) (i := 0) (by omega))
  repeat (first | refine WC.seq ?_ | refine WC.reg ?_ | refine WL.pure rfl rfl rfl ?_ | refine WL.nil ?_ | refine WC.skip ?_ | refine WC.block ?_ | refine WC.condT rfl ?_ | refine WC.condF rfl ?_ | refine WL.off rfl rfl rfl ?_ | refine WL.off0 rfl rfl ?_ | refine WC.exit ?_ | refine blk_hit ?_ | refine blk_miss rfl ?_ | refine WC.ret ?_)
  refine WC.loop (Option Addr × Nat × Bvs) (fun (aa, ac, bs) => [(0, .slice fa l.length fc), (1, .slice a1 lp c1), (7, .slice (some ⟨mb, mo, none⟩) ms.length pmc), (8, .int .i64 (ms.length : Nat)), (9, .slice aa bs.length ac), (10, .int .i64 (bs.length : Nat))])
    (fun (aa, ac, bs) w' => Hp w2 w' (Rbv ms.length (.slice aa bs.length ac) bs :: bvE bs) ∧ bs.length ≤ l.length ∧ InvB l ms lp bs) (fun (_, _, bs) => l.length - bs.length) (none, 0, []) ⟨rfl, rfl, rfl, rfl, rfl, rfl, rfl⟩
    ⟨(Hp.start w2).nilrow 90 1, Nat.zero_le _, fun j x hx => by simp at hx⟩ ?_
  rintro ⟨aa, ac, bs⟩ w3 ⟨hp3, hbl, hInv⟩
  replace hp3 : Hp w2 w3 (Rbv ms.length (.slice aa bs.length ac) bs :: bvE bs) := hp3
  replace hbl : bs.length ≤ l.length := hbl
  replace hInv : InvB l ms lp bs := hInv
  repeat (first | refine WC.seq ?_ | refine WC.reg ?_ | refine WL.pure rfl rfl rfl ?_ | refine WL.nil ?_ | refine WC.skip ?_ | refine WC.block ?_ | refine WC.condT rfl ?_ | refine WC.condF rfl ?_ | refine WL.off rfl rfl rfl ?_ | refine WL.off0 rfl rfl ?_ | refine WC.exit ?_ | refine blk_hit ?_ | refine blk_miss rfl ?_ | refine WC.ret ?_)
  refine WC.cond rfl (fun g1 => ?_) (fun g1 => ?_)
  · have hi : bs.length < l.length := by have := of_decide_eq_true g1; omega
    have step := wrap_succ (i := bs.length) (n := bs.length + 1) (by omega) (by omega)
    obtain ⟨⟨s, A, B⟩, hx⟩ : ∃ x, l[bs.length]? = some x := ⟨_, List.getElem?_eq_getElem hi⟩
    obtain ⟨Av, Bv, hK⟩ := kind_of hok hx
    repeat (first | refine WC.seq ?_ | refine WC.reg ?_ | refine WL.pure rfl rfl rfl ?_ | refine WL.nil ?_ | refine WC.skip ?_ | refine WC.block ?_ | refine WC.condT rfl ?_ | refine WC.condF rfl ?_ | refine WL.off rfl rfl rfl ?_ | refine WL.off0 rfl rfl ?_ | refine WC.exit ?_ | refine blk_hit ?_ | refine blk_miss rfl ?_ | refine WC.ret ?_)
    refine WL.ixloadN (cs' := [st s, .int .i64 A, .int .i64 B]) rfl (fun _ => rfl) rfl rfl rfl rfl rfl rfl rfl rfl hi rfl rfl (hf2.hp hp3) rfl (ndC_at hx) ?_
    intro p0
    refine WL.alloc rfl rfl rfl (fun b1 w4 h4 => ?_)
    have hp4 := hp3.new h4
    refine WL.storeN rfl rfl rfl rfl rfl (by simp [Value.oneCell', st]) (hp4.obj 0 rfl) (Nat.le_refl _) rfl (fun w5 h5 => ?_)
    have hp5 : Hp w2 w5 (Ndb b1 s A B :: Rbv ms.length (.slice aa bs.length ac) bs :: bvE bs) := hp4.set 0 rfl rfl h5
    clear hp4 hp3
    repeat (first | refine WC.seq ?_ | refine WC.reg ?_ | refine WL.pure rfl rfl rfl ?_ | refine WL.nil ?_ | refine WC.skip ?_ | refine WC.block ?_ | refine WC.condT rfl ?_ | refine WC.condF rfl ?_ | refine WL.off rfl rfl rfl ?_ | refine WL.off0 rfl rfl ?_ | refine WC.exit ?_ | refine blk_hit ?_ | refine blk_miss rfl ?_ | refine WC.ret ?_)
    refine WL.make rfl rfl rfl rfl rfl rfl rfl rfl (by show 1 * ms.length ≤ _; omega) (by unfold maxLen; omega) ?_
    intro ob w6 hob
    have hp6 : Hp w2 w6 (Lb ob (List.replicate ms.length false) :: Ndb b1 s A B :: Rbv ms.length (.slice aa bs.length ac) bs :: bvE bs) := by
      have := hp5.new hob
      unfold Lb bl
      rw [List.map_replicate]
      exact this
    clear hp5
    refine WL.pure rfl rfl rfl ?_
    refine WL.nil ?_
    refine WC.seq ?_
    refine WC.mid Unit (fun _ => [(0, .slice fa l.length fc), (1, .slice a1 lp c1), (7, .slice (some ⟨mb, mo, none⟩) ms.length pmc), (8, .int .i64 (ms.length : Nat)), (9, .slice aa bs.length ac), (10, .int .i64 (bs.length : Nat)), (11, ptr b1), (12, .slice (some ⟨ob, 0, none⟩) ms.length ms.length), (13, .bool (leastR s))])
      (fun _ w' => Hp w2 w' (Lb ob (List.replicate ms.length false) :: Ndb b1 s A B :: Rbv ms.length (.slice aa bs.length ac) bs :: bvE bs)) ?_ ?_
    · repeat (first | refine WC.seq ?_ | refine WC.reg ?_ | refine WL.pure rfl rfl rfl ?_ | refine WL.nil ?_ | refine WC.skip ?_ | refine WC.block ?_ | refine WC.condT rfl ?_ | refine WC.condF rfl ?_ | refine WL.off rfl rfl rfl ?_ | refine WL.off0 rfl rfl ?_ | refine WC.exit ?_ | refine blk_hit ?_ | refine blk_miss rfl ?_ | refine WC.ret ?_)
      refine WL.loadB rfl rfl rfl rfl rfl (hp6.obj 1 rfl) (j := 0) rfl ?_
      by_cases hu : s = wUntil
      · refine WL.sCmp (a := s) (b := wUntil) (r := true) rfl rfl rfl rfl (by simp [cmpS, hu]) ?_
        repeat (first | refine WC.seq ?_ | refine WC.reg ?_ | refine WL.pure rfl rfl rfl ?_ | refine WL.nil ?_ | refine WC.skip ?_ | refine WC.block ?_ | refine WC.condT rfl ?_ | refine WC.condF rfl ?_ | refine WL.off rfl rfl rfl ?_ | refine WL.off0 rfl rfl ?_ | refine WC.exit ?_ | refine blk_hit ?_ | refine blk_miss rfl ?_ | refine WC.ret ?_)
        exact ⟨(), ⟨rfl, rfl, rfl, rfl, rfl, rfl, rfl, rfl, congrArg (fun b => some (Value.bool b)) (by simp [leastR, hu]), rfl⟩, hp6⟩
      · refine WL.sCmp (a := s) (b := wUntil) (r := false) rfl rfl rfl rfl (by simp [cmpS, hu]) ?_
        repeat (first | refine WC.seq ?_ | refine WC.reg ?_ | refine WL.pure rfl rfl rfl ?_ | refine WL.nil ?_ | refine WC.skip ?_ | refine WC.block ?_ | refine WC.condT rfl ?_ | refine WC.condF rfl ?_ | refine WL.off rfl rfl rfl ?_ | refine WL.off0 rfl rfl ?_ | refine WC.exit ?_ | refine blk_hit ?_ | refine blk_miss rfl ?_ | refine WC.ret ?_)
        refine WL.loadB rfl rfl rfl rfl rfl (hp6.obj 1 rfl) (j := 0) rfl ?_
        refine WL.sCmp (a := s) (b := wFinally) (r := decide (s = wFinally)) rfl rfl rfl rfl rfl ?_
        repeat (first | refine WC.seq ?_ | refine WC.reg ?_ | refine WL.pure rfl rfl rfl ?_ | refine WL.nil ?_ | refine WC.skip ?_ | refine WC.block ?_ | refine WC.condT rfl ?_ | refine WC.condF rfl ?_ | refine WL.off rfl rfl rfl ?_ | refine WL.off0 rfl rfl ?_ | refine WC.exit ?_ | refine blk_hit ?_ | refine blk_miss rfl ?_ | refine WC.ret ?_)
        exact ⟨(), ⟨rfl, rfl, rfl, rfl, rfl, rfl, rfl, rfl, congrArg (fun b => some (Value.bool b)) (by simp [leastR, hu]), rfl⟩, hp6⟩
    rintro _ e7 w7 hsub hp7
    refine WC.sub hsub ?_
    clear hsub e7 hp6
    repeat (first | refine WC.seq ?_ | refine WC.reg ?_ | refine WL.pure rfl rfl rfl ?_ | refine WL.nil ?_ | refine WC.skip ?_ | refine WC.block ?_ | refine WC.condT rfl ?_ | refine WC.condF rfl ?_ | refine WL.off rfl rfl rfl ?_ | refine WL.off0 rfl rfl ?_ | refine WC.exit ?_ | refine blk_hit ?_ | refine blk_miss rfl ?_ | refine WC.ret ?_)
    refine WC.loop (Nat × List Bool) (fun (j, _) => [(0, .slice fa l.length fc), (1, .slice a1 lp c1), (7, .slice (some ⟨mb, mo, none⟩) ms.length pmc), (8, .int .i64 (ms.length : Nat)), (9, .slice aa bs.length ac), (10, .int .i64 (bs.length : Nat)), (11, ptr b1), (12, .slice (some ⟨ob, 0, none⟩) ms.length ms.length), (13, .bool (leastR s)), (14, .int .i64 (j : Nat))])
      (fun (j, c) w' => lp ≤ j ∧ j ≤ ms.length ∧ c.length = ms.length ∧ (∀ q, c.getD q false = (decide (lp ≤ q ∧ q < j) && !leastR s)) ∧ Hp w2 w' (Lb ob c :: Ndb b1 s A B :: Rbv ms.length (.slice aa bs.length ac) bs :: bvE bs)) (fun (j, _) => ms.length - j) (lp, List.replicate ms.length false) ⟨rfl, rfl, rfl, rfl, rfl, rfl, rfl, rfl, rfl, rfl, rfl⟩
      ⟨Nat.le_refl _, by show lp ≤ ms.length; omega, List.length_replicate, fun q => ?_, hp7⟩ ?_
    · rw [decide_eq_false (by omega), Bool.false_and, List.getD_eq_getElem?_getD, List.getElem?_replicate]
      split <;> rfl
    clear hp7
    rintro ⟨j, c⟩ w8 ⟨hj0, hj1, hcl, hcv, hp8⟩
    replace hj0 : lp ≤ j := hj0
    replace hj1 : j ≤ ms.length := hj1
    replace hcl : c.length = ms.length := hcl
    replace hcv : ∀ q, c.getD q false = (decide (lp ≤ q ∧ q < j) && !leastR s) := hcv
    replace hp8 : Hp w2 w8 (Lb ob c :: Ndb b1 s A B :: Rbv ms.length (.slice aa bs.length ac) bs :: bvE bs) := hp8
    repeat (first | refine WC.seq ?_ | refine WC.reg ?_ | refine WL.pure rfl rfl rfl ?_ | refine WL.nil ?_ | refine WC.skip ?_ | refine WC.block ?_ | refine WC.condT rfl ?_ | refine WC.condF rfl ?_ | refine WL.off rfl rfl rfl ?_ | refine WL.off0 rfl rfl ?_ | refine WC.exit ?_ | refine blk_hit ?_ | refine blk_miss rfl ?_ | refine WC.ret ?_)
    refine WC.cond rfl (fun g2 => ?_) (fun g2 => ?_)
    · have hj : j < ms.length := by have := of_decide_eq_true g2; omega
      have stepj := wrap_succ (i := j) (n := j + 1) (by omega) (by omega)
      repeat (first | refine WC.seq ?_ | refine WC.reg ?_ | refine WL.pure rfl rfl rfl ?_ | refine WL.nil ?_ | refine WC.skip ?_ | refine WC.block ?_ | refine WC.condT rfl ?_ | refine WC.condF rfl ?_ | refine WL.off rfl rfl rfl ?_ | refine WL.off0 rfl rfl ?_ | refine WC.exit ?_ | refine blk_hit ?_ | refine blk_miss rfl ?_ | refine WC.ret ?_)
      refine WL.ix1 rfl rfl rfl rfl rfl rfl rfl hj ?_
      refine WL.store rfl rfl rfl rfl rfl rfl (hp8.obj 0 rfl) (by rw [List.size_toArray, bl_len]; omega) (fun w9 h9 => ?_)
      rw [Nat.zero_add, bl_set] at h9
      have hp9 := hp8.set 0 rfl rfl h9
      repeat (first | refine WC.seq ?_ | refine WC.reg ?_ | refine WL.pure rfl rfl rfl ?_ | refine WL.nil ?_ | refine WC.skip ?_ | refine WC.block ?_ | refine WC.condT rfl ?_ | refine WC.condF rfl ?_ | refine WL.off rfl rfl rfl ?_ | refine WL.off0 rfl rfl ?_ | refine WC.exit ?_ | refine blk_hit ?_ | refine blk_miss rfl ?_ | refine WC.ret ?_)
      refine ⟨(j + 1, _), (by show ms.length - (j + 1) < ms.length - j; omega), ⟨rfl, rfl, rfl, rfl, rfl, rfl, rfl, rfl, rfl, congrArg (fun z => some (Value.int .i64 z)) stepj, rfl⟩, (by show lp ≤ j + 1; omega), hj, (by rw [List.length_set]; exact hcl), (fun q => ?_), hp9⟩
      rw [getD_set (by omega)]
      split
      · rename_i e
        subst e
        rw [decide_eq_true (by omega), Bool.true_and]
      · rename_i e
        rw [hcv q]
        congr 1
        exact decide_eq_decide.2 (by omega)
    have hj : j = ms.length := by have := of_decide_eq_false g2; omega
    subst hj
    obtain rfl := start_is hlp hcl hcv
    clear hcv hcl hj0 hj1 g2
    repeat (first | refine WC.seq ?_ | refine WC.reg ?_ | refine WL.pure rfl rfl rfl ?_ | refine WL.nil ?_ | refine WC.skip ?_ | refine WC.block ?_ | refine WC.condT rfl ?_ | refine WC.condF rfl ?_ | refine WL.off rfl rfl rfl ?_ | refine WL.off0 rfl rfl ?_ | refine WC.exit ?_ | refine blk_hit ?_ | refine blk_miss rfl ?_ | refine WC.ret ?_)
    refine WC.loop Nat (fun p => [(0, .slice fa l.length fc), (1, .slice a1 lp c1), (7, .slice (some ⟨mb, mo, none⟩) ms.length pmc), (8, .int .i64 (ms.length : Nat)), (9, .slice aa bs.length ac), (10, .int .i64 (bs.length : Nat)), (11, ptr b1), (12, .slice (some ⟨ob, 0, none⟩) ms.length ms.length), (15, .int .i64 (p : Nat))])
      (fun p w' => p ≤ 2 ∧ Hp w2 w' (Lb ob (itR s Av Bv ms lp p) :: Ndb b1 s A B :: Rbv ms.length (.slice aa bs.length ac) bs :: bvE bs)) (fun p => 2 - p) 0 ⟨rfl, rfl, rfl, rfl, rfl, rfl, rfl, rfl, rfl, rfl⟩ ⟨Nat.zero_le _, hp8⟩ ?_
    clear hp8
    rintro p w9 ⟨hp2', hp9⟩
    repeat (first | refine WC.seq ?_ | refine WC.reg ?_ | refine WL.pure rfl rfl rfl ?_ | refine WL.nil ?_ | refine WC.skip ?_ | refine WC.block ?_ | refine WC.condT rfl ?_ | refine WC.condF rfl ?_ | refine WL.off rfl rfl rfl ?_ | refine WL.off0 rfl rfl ?_ | refine WC.exit ?_ | refine blk_hit ?_ | refine blk_miss rfl ?_ | refine WC.ret ?_)
    refine WC.cond rfl (fun g3 => ?_) (fun g3 => ?_)
    · have hpl : p < 2 := by have := of_decide_eq_true g3; omega
      have stepp := wrap_succ (i := p) (n := p + 1) (by omega) (by omega)
      have e1 : IntKind.i64.wrap (((ms.length : Nat) : Int) - 1) = ((ms.length : Nat) : Int) - 1 := wrap_mid (by omega) (by omega)
      repeat (first | refine WC.seq ?_ | refine WC.reg ?_ | refine WL.pure rfl rfl rfl ?_ | refine WL.nil ?_ | refine WC.skip ?_ | refine WC.block ?_ | refine WC.condT rfl ?_ | refine WC.condF rfl ?_ | refine WL.off rfl rfl rfl ?_ | refine WL.off0 rfl rfl ?_ | refine WC.exit ?_ | refine blk_hit ?_ | refine blk_miss rfl ?_ | refine WC.ret ?_)
      refine WC.loop (Nat × List Bool) (fun (j, _) => [(0, .slice fa l.length fc), (1, .slice a1 lp c1), (7, .slice (some ⟨mb, mo, none⟩) ms.length pmc), (8, .int .i64 (ms.length : Nat)), (9, .slice aa bs.length ac), (10, .int .i64 (bs.length : Nat)), (11, ptr b1), (12, .slice (some ⟨ob, 0, none⟩) ms.length ms.length), (15, .int .i64 (p : Nat)), (16, .int .i64 ((j : Nat) - 1))])
        (fun (j, c) w' => j ≤ ms.length ∧ c.length = ms.length ∧ passM (gR s Av Bv ms lp) ms.length lp j c = itR s Av Bv ms lp (p + 1) ∧ Hp w2 w' (Lb ob c :: Ndb b1 s A B :: Rbv ms.length (.slice aa bs.length ac) bs :: bvE bs)) (fun (j, _) => j) (ms.length, itR s Av Bv ms lp p) ⟨rfl, rfl, rfl, rfl, rfl, rfl, rfl, rfl, rfl, congrArg (fun z => some (Value.int .i64 z)) e1, rfl⟩
        ⟨Nat.le_refl _, itR_len s Av Bv ms hlp p, rfl, hp9⟩ ?_
      clear hp9
      rintro ⟨j, c⟩ w10 ⟨hj, hcl, hps, hp10⟩
      replace hp10 : Hp w2 w10 (Lb ob c :: Ndb b1 s A B :: Rbv ms.length (.slice aa bs.length ac) bs :: bvE bs) := hp10
      replace hps : passM (gR s Av Bv ms lp) ms.length lp j c = itR s Av Bv ms lp (p + 1) := hps
      replace hcl : c.length = ms.length := hcl
      replace hj : j ≤ ms.length := hj
      repeat (first | refine WC.seq ?_ | refine WC.reg ?_ | refine WL.pure rfl rfl rfl ?_ | refine WL.nil ?_ | refine WC.skip ?_ | refine WC.block ?_ | refine WC.condT rfl ?_ | refine WC.condF rfl ?_ | refine WL.off rfl rfl rfl ?_ | refine WL.off0 rfl rfl ?_ | refine WC.exit ?_ | refine blk_hit ?_ | refine blk_miss rfl ?_ | refine WC.ret ?_)
      refine WC.cond rfl (fun g4 => ?_) (fun g4 => ?_)
      · have hj0 : 0 < j := by have := of_decide_eq_true g4; omega
        obtain ⟨k, rfl⟩ : ∃ k, j = k + 1 := ⟨j - 1, by omega⟩
        have hk : k < ms.length := hj
        have e2 : (((k + 1 : Nat) : Int) - 1) = ((k : Nat) : Int) := by omega
        have e3 : IntKind.i64.wrap (((k : Nat) : Int) - 1) = ((k : Nat) : Int) - 1 := wrap_mid (by omega) (by omega)
        have stepk := wrap_succ (i := k) (n := k + 1) (by omega) (by omega)
        refine WC.known (d := 16) (congrArg (fun z => some (Value.int .i64 z)) e2) ?_
        have hax := aft_lt (i := k) hlp
        refine WC.skip ?_
        refine WC.seq ?_
        refine WC.mid Unit (fun _ => [(0, .slice fa l.length fc), (1, .slice a1 lp c1), (7, .slice (some ⟨mb, mo, none⟩) ms.length pmc), (8, .int .i64 (ms.length : Nat)), (9, .slice aa bs.length ac), (10, .int .i64 (bs.length : Nat)), (11, ptr b1), (12, .slice (some ⟨ob, 0, none⟩) ms.length ms.length), (15, .int .i64 (p : Nat)), (16, .int .i64 (k : Nat))])
          (fun _ w' => Hp w2 w' (Lb ob (c.set k (gR s Av Bv ms lp k (c.getD (aft ms.length lp k) false))) :: Ndb b1 s A B :: Rbv ms.length (.slice aa bs.length ac) bs :: bvE bs)) ?_ ?_
        · repeat (first | refine WC.seq ?_ | refine WC.reg ?_ | refine WL.pure rfl rfl rfl ?_ | refine WL.nil ?_ | refine WC.skip ?_ | refine WC.block ?_ | refine WC.condT rfl ?_ | refine WC.condF rfl ?_ | refine WL.off rfl rfl rfl ?_ | refine WL.off0 rfl rfl ?_ | refine WC.exit ?_ | refine blk_hit ?_ | refine blk_miss rfl ?_ | refine WC.ret ?_)
          refine WC.mid Unit (fun _ => [(0, .slice fa l.length fc), (1, .slice a1 lp c1), (7, .slice (some ⟨mb, mo, none⟩) ms.length pmc), (8, .int .i64 (ms.length : Nat)), (9, .slice aa bs.length ac), (10, .int .i64 (bs.length : Nat)), (11, ptr b1), (12, .slice (some ⟨ob, 0, none⟩) ms.length ms.length), (15, .int .i64 (p : Nat)), (16, .int .i64 (k : Nat)), (17, .int .i64 (aft ms.length lp k : Nat))])
            (fun _ w' => Hp w2 w' (Lb ob c :: Ndb b1 s A B :: Rbv ms.length (.slice aa bs.length ac) bs :: bvE bs)) ?_ ?_
          · refine WC.cond rfl (fun g5 => ?_) (fun g5 => ?_)
            · rw [stepk] at g5
              have g5 : ((k + 1 : Nat) : Int) = ((ms.length : Nat) : Int) := eq_of_beq g5
              repeat (first | refine WC.seq ?_ | refine WC.reg ?_ | refine WL.pure rfl rfl rfl ?_ | refine WL.nil ?_ | refine WC.skip ?_ | refine WC.block ?_ | refine WC.condT rfl ?_ | refine WC.condF rfl ?_ | refine WL.off rfl rfl rfl ?_ | refine WL.off0 rfl rfl ?_ | refine WC.exit ?_ | refine blk_hit ?_ | refine blk_miss rfl ?_ | refine WC.ret ?_)
              exact ⟨(), ⟨rfl, rfl, rfl, rfl, rfl, rfl, rfl, rfl, rfl, rfl, congrArg (fun z => some (Value.int .i64 ((z : Nat) : Int))) (by unfold aft; rw [if_neg (by omega)]), rfl⟩, hp10⟩
            · rw [stepk] at g5
              have g5 : ¬ ((k + 1 : Nat) : Int) = ((ms.length : Nat) : Int) := fun h => by rw [h, beq_self_eq_true] at g5; cases g5
              repeat (first | refine WC.seq ?_ | refine WC.reg ?_ | refine WL.pure rfl rfl rfl ?_ | refine WL.nil ?_ | refine WC.skip ?_ | refine WC.block ?_ | refine WC.condT rfl ?_ | refine WC.condF rfl ?_ | refine WL.off rfl rfl rfl ?_ | refine WL.off0 rfl rfl ?_ | refine WC.exit ?_ | refine blk_hit ?_ | refine blk_miss rfl ?_ | refine WC.ret ?_)
              exact ⟨(), ⟨rfl, rfl, rfl, rfl, rfl, rfl, rfl, rfl, rfl, rfl, congrArg (fun z => some (Value.int .i64 z)) (stepk.trans (by unfold aft; rw [if_pos (by omega)])), rfl⟩, hp10⟩
          rintro _ e11 w11 hsub hp11
          refine WC.sub hsub ?_
          clear hsub e11 hp10
          obtain ⟨nx, hnx⟩ : ∃ nx, nx = aft ms.length lp k := ⟨_, rfl⟩
          rw [← hnx] at hax ⊢
          obtain ⟨xv, hxv⟩ : ∃ b, b = c.getD nx false := ⟨_, rfl⟩
          obtain ⟨av, hav⟩ : ∃ b, b = Av.getD k false := ⟨_, rfl⟩
          obtain ⟨bv, hbv⟩ : ∃ b, b = Bv.getD k false := ⟨_, rfl⟩
          have hcx : w11.cell? ⟨ob, 0 + nx, none⟩ = some (.bool xv) := by rw [hxv]; exact lb_obj hp11 (by omega)
          rw [← hxv]
          rcases hK with ⟨hs, rfl, rfl, rfl, rfl⟩ | ⟨hs, a, ha, rfl, rfl, rfl, rfl⟩ | ⟨hs, a, b, ha, hb, rfl, rfl, rfl, rfl⟩
          · have hs2 : s = wTrue ∨ s = wFalse ∨ s = [112, 48] ∨ s = [112, 49] ∨ s = [112, 50] ∨ s = [112, 51] := by simpa [atomsL] using hs
            repeat (first | refine WC.seq ?_ | refine WC.reg ?_ | refine WL.pure rfl rfl rfl ?_ | refine WL.nil ?_ | refine WC.skip ?_ | refine WC.block ?_ | refine WC.condT rfl ?_ | refine WC.condF rfl ?_ | refine WL.off rfl rfl rfl ?_ | refine WL.off0 rfl rfl ?_ | refine WC.exit ?_ | refine blk_hit ?_ | refine blk_miss rfl ?_ | refine WC.ret ?_)
            refine WL.loadB rfl rfl rfl rfl rfl (hp11.obj 1 rfl) (j := 1) rfl ?_
            repeat (first | refine WC.seq ?_ | refine WC.reg ?_ | refine WL.pure rfl rfl rfl ?_ | refine WL.nil ?_ | refine WC.skip ?_ | refine WC.block ?_ | refine WC.condT rfl ?_ | refine WC.condF rfl ?_ | refine WL.off rfl rfl rfl ?_ | refine WL.off0 rfl rfl ?_ | refine WC.exit ?_ | refine blk_hit ?_ | refine blk_miss rfl ?_ | refine WC.ret ?_)
            refine WL.loadB rfl rfl rfl rfl rfl (hp11.obj 1 rfl) (j := 2) rfl ?_
            repeat (first | refine WC.seq ?_ | refine WC.reg ?_ | refine WL.pure rfl rfl rfl ?_ | refine WL.nil ?_ | refine WC.skip ?_ | refine WC.block ?_ | refine WC.condT rfl ?_ | refine WC.condF rfl ?_ | refine WL.off rfl rfl rfl ?_ | refine WL.off0 rfl rfl ?_ | refine WC.exit ?_ | refine blk_hit ?_ | refine blk_miss rfl ?_ | refine WC.ret ?_)
            refine WL.loadB rfl rfl rfl rfl rfl (hp11.obj 1 rfl) (j := 0) rfl ?_
            repeat (first | refine WC.seq ?_ | refine WC.reg ?_ | refine WL.pure rfl rfl rfl ?_ | refine WL.nil ?_ | refine WC.skip ?_ | refine WC.block ?_ | refine WC.condT rfl ?_ | refine WC.condF rfl ?_ | refine WL.off rfl rfl rfl ?_ | refine WL.off0 rfl rfl ?_ | refine WC.exit ?_ | refine blk_hit ?_ | refine blk_miss rfl ?_ | refine WC.ret ?_)
            rcases hs2 with rfl | rfl | hs2
            · refine WL.sCmp (a := wTrue) (b := wTrue) rfl rfl rfl rfl rfl ?_
              repeat (first | refine WC.seq ?_ | refine WC.reg ?_ | refine WL.pure rfl rfl rfl ?_ | refine WL.nil ?_ | refine WC.skip ?_ | refine WC.block ?_ | refine WC.condT rfl ?_ | refine WC.condF rfl ?_ | refine WL.off rfl rfl rfl ?_ | refine WL.off0 rfl rfl ?_ | refine WC.exit ?_ | refine blk_hit ?_ | refine blk_miss rfl ?_ | refine WC.ret ?_)
              refine WL.ix1 rfl rfl rfl rfl rfl rfl rfl hk ?_
              refine WL.store rfl rfl rfl rfl rfl rfl (hp11.obj 0 rfl) (by rw [List.size_toArray, bl_len]; omega) (fun w12 h12 => ?_)
              rw [Nat.zero_add, bl_set] at h12
              have hp12 := hp11.set 0 rfl rfl h12
              repeat (first | refine WC.seq ?_ | refine WC.reg ?_ | refine WL.pure rfl rfl rfl ?_ | refine WL.nil ?_ | refine WC.skip ?_ | refine WC.block ?_ | refine WC.condT rfl ?_ | refine WC.condF rfl ?_ | refine WL.off rfl rfl rfl ?_ | refine WL.off0 rfl rfl ?_ | refine WC.exit ?_ | refine blk_hit ?_ | refine blk_miss rfl ?_ | refine WC.ret ?_)
              refine ⟨(), ⟨rfl, rfl, rfl, rfl, rfl, rfl, rfl, rfl, rfl, rfl, rfl⟩, ?_⟩
              rw [show gR wTrue [] [] ms lp k xv = true from rfl]
              exact hp12
            · refine WL.sCmp (a := wFalse) (b := wTrue) rfl rfl rfl rfl rfl ?_
              repeat (first | refine WC.seq ?_ | refine WC.reg ?_ | refine WL.pure rfl rfl rfl ?_ | refine WL.nil ?_ | refine WC.skip ?_ | refine WC.block ?_ | refine WC.condT rfl ?_ | refine WC.condF rfl ?_ | refine WL.off rfl rfl rfl ?_ | refine WL.off0 rfl rfl ?_ | refine WC.exit ?_ | refine blk_hit ?_ | refine blk_miss rfl ?_ | refine WC.ret ?_)
              refine WL.sCmp (a := wFalse) (b := wFalse) rfl rfl rfl rfl rfl ?_
              repeat (first | refine WC.seq ?_ | refine WC.reg ?_ | refine WL.pure rfl rfl rfl ?_ | refine WL.nil ?_ | refine WC.skip ?_ | refine WC.block ?_ | refine WC.condT rfl ?_ | refine WC.condF rfl ?_ | refine WL.off rfl rfl rfl ?_ | refine WL.off0 rfl rfl ?_ | refine WC.exit ?_ | refine blk_hit ?_ | refine blk_miss rfl ?_ | refine WC.ret ?_)
              refine WL.ix1 rfl rfl rfl rfl rfl rfl rfl hk ?_
              refine WL.store rfl rfl rfl rfl rfl rfl (hp11.obj 0 rfl) (by rw [List.size_toArray, bl_len]; omega) (fun w12 h12 => ?_)
              rw [Nat.zero_add, bl_set] at h12
              have hp12 := hp11.set 0 rfl rfl h12
              repeat (first | refine WC.seq ?_ | refine WC.reg ?_ | refine WL.pure rfl rfl rfl ?_ | refine WL.nil ?_ | refine WC.skip ?_ | refine WC.block ?_ | refine WC.condT rfl ?_ | refine WC.condF rfl ?_ | refine WL.off rfl rfl rfl ?_ | refine WL.off0 rfl rfl ?_ | refine WC.exit ?_ | refine blk_hit ?_ | refine blk_miss rfl ?_ | refine WC.ret ?_)
              refine ⟨(), ⟨rfl, rfl, rfl, rfl, rfl, rfl, rfl, rfl, rfl, rfl, rfl⟩, ?_⟩
              rw [show gR wFalse [] [] ms lp k xv = false from rfl]
              exact hp12
            · obtain ⟨m, hmk⟩ : ∃ m, m = ms[k] := ⟨_, rfl⟩
              have hgr : gR s [] [] ms lp k xv = holdsM s m := by
                have hgd : ms.getD k 0 = m := by rw [hmk]; simp [hk]
                rw [← hgd]
                rcases hs2 with rfl | rfl | rfl | rfl <;> rfl
              have hmr : 0 ≤ m ∧ m ≤ 15 := by rw [hmk]; exact hm _ (List.getElem_mem hk)
              have hst : s ≠ wTrue := by rcases hs2 with rfl | rfl | rfl | rfl <;> decide
              have hsf : s ≠ wFalse := by rcases hs2 with rfl | rfl | rfl | rfl <;> decide
              refine WL.sCmp (a := s) (b := wTrue) (r := false) rfl rfl rfl rfl (by rcases hs2 with rfl | rfl | rfl | rfl <;> decide) ?_
              repeat (first | refine WC.seq ?_ | refine WC.reg ?_ | refine WL.pure rfl rfl rfl ?_ | refine WL.nil ?_ | refine WC.skip ?_ | refine WC.block ?_ | refine WC.condT rfl ?_ | refine WC.condF rfl ?_ | refine WL.off rfl rfl rfl ?_ | refine WL.off0 rfl rfl ?_ | refine WC.exit ?_ | refine blk_hit ?_ | refine blk_miss rfl ?_ | refine WC.ret ?_)
              refine WL.sCmp (a := s) (b := wFalse) (r := false) rfl rfl rfl rfl (by rcases hs2 with rfl | rfl | rfl | rfl <;> decide) ?_
              repeat (first | refine WC.seq ?_ | refine WC.reg ?_ | refine WL.pure rfl rfl rfl ?_ | refine WL.nil ?_ | refine WC.skip ?_ | refine WC.block ?_ | refine WC.condT rfl ?_ | refine WC.condF rfl ?_ | refine WL.off rfl rfl rfl ?_ | refine WL.off0 rfl rfl ?_ | refine WC.exit ?_ | refine blk_hit ?_ | refine blk_miss rfl ?_ | refine WC.ret ?_)
              refine WL.sCmp (a := s) (b := wNot) (r := false) rfl rfl rfl rfl (by rcases hs2 with rfl | rfl | rfl | rfl <;> decide) ?_
              repeat (first | refine WC.seq ?_ | refine WC.reg ?_ | refine WL.pure rfl rfl rfl ?_ | refine WL.nil ?_ | refine WC.skip ?_ | refine WC.block ?_ | refine WC.condT rfl ?_ | refine WC.condF rfl ?_ | refine WL.off rfl rfl rfl ?_ | refine WL.off0 rfl rfl ?_ | refine WC.exit ?_ | refine blk_hit ?_ | refine blk_miss rfl ?_ | refine WC.ret ?_)
              refine WL.sCmp (a := s) (b := wAnd) (r := false) rfl rfl rfl rfl (by rcases hs2 with rfl | rfl | rfl | rfl <;> decide) ?_
              repeat (first | refine WC.seq ?_ | refine WC.reg ?_ | refine WL.pure rfl rfl rfl ?_ | refine WL.nil ?_ | refine WC.skip ?_ | refine WC.block ?_ | refine WC.condT rfl ?_ | refine WC.condF rfl ?_ | refine WL.off rfl rfl rfl ?_ | refine WL.off0 rfl rfl ?_ | refine WC.exit ?_ | refine blk_hit ?_ | refine blk_miss rfl ?_ | refine WC.ret ?_)
              refine WL.sCmp (a := s) (b := wOr) (r := false) rfl rfl rfl rfl (by rcases hs2 with rfl | rfl | rfl | rfl <;> decide) ?_
              repeat (first | refine WC.seq ?_ | refine WC.reg ?_ | refine WL.pure rfl rfl rfl ?_ | refine WL.nil ?_ | refine WC.skip ?_ | refine WC.block ?_ | refine WC.condT rfl ?_ | refine WC.condF rfl ?_ | refine WL.off rfl rfl rfl ?_ | refine WL.off0 rfl rfl ?_ | refine WC.exit ?_ | refine blk_hit ?_ | refine blk_miss rfl ?_ | refine WC.ret ?_)
              refine WL.sCmp (a := s) (b := wNext) (r := false) rfl rfl rfl rfl (by rcases hs2 with rfl | rfl | rfl | rfl <;> decide) ?_
              repeat (first | refine WC.seq ?_ | refine WC.reg ?_ | refine WL.pure rfl rfl rfl ?_ | refine WL.nil ?_ | refine WC.skip ?_ | refine WC.block ?_ | refine WC.condT rfl ?_ | refine WC.condF rfl ?_ | refine WL.off rfl rfl rfl ?_ | refine WL.off0 rfl rfl ?_ | refine WC.exit ?_ | refine blk_hit ?_ | refine blk_miss rfl ?_ | refine WC.ret ?_)
              refine WL.sCmp (a := s) (b := wUntil) (r := false) rfl rfl rfl rfl (by rcases hs2 with rfl | rfl | rfl | rfl <;> decide) ?_
              repeat (first | refine WC.seq ?_ | refine WC.reg ?_ | refine WL.pure rfl rfl rfl ?_ | refine WL.nil ?_ | refine WC.skip ?_ | refine WC.block ?_ | refine WC.condT rfl ?_ | refine WC.condF rfl ?_ | refine WL.off rfl rfl rfl ?_ | refine WL.off0 rfl rfl ?_ | refine WC.exit ?_ | refine blk_hit ?_ | refine blk_miss rfl ?_ | refine WC.ret ?_)
              refine WL.sCmp (a := s) (b := wRelease) (r := false) rfl rfl rfl rfl (by rcases hs2 with rfl | rfl | rfl | rfl <;> decide) ?_
              repeat (first | refine WC.seq ?_ | refine WC.reg ?_ | refine WL.pure rfl rfl rfl ?_ | refine WL.nil ?_ | refine WC.skip ?_ | refine WC.block ?_ | refine WC.condT rfl ?_ | refine WC.condF rfl ?_ | refine WL.off rfl rfl rfl ?_ | refine WL.off0 rfl rfl ?_ | refine WC.exit ?_ | refine blk_hit ?_ | refine blk_miss rfl ?_ | refine WC.ret ?_)
              refine WL.sCmp (a := s) (b := wAlways) (r := false) rfl rfl rfl rfl (by rcases hs2 with rfl | rfl | rfl | rfl <;> decide) ?_
              repeat (first | refine WC.seq ?_ | refine WC.reg ?_ | refine WL.pure rfl rfl rfl ?_ | refine WL.nil ?_ | refine WC.skip ?_ | refine WC.block ?_ | refine WC.condT rfl ?_ | refine WC.condF rfl ?_ | refine WL.off rfl rfl rfl ?_ | refine WL.off0 rfl rfl ?_ | refine WC.exit ?_ | refine blk_hit ?_ | refine blk_miss rfl ?_ | refine WC.ret ?_)
              refine WL.sCmp (a := s) (b := wFinally) (r := false) rfl rfl rfl rfl (by rcases hs2 with rfl | rfl | rfl | rfl <;> decide) ?_
              refine WL.pure rfl rfl rfl ?_
              refine WL.nil ?_
              refine WC.condF rfl ?_
              refine WC.regH (fun w' => Hp w2 w' [Ndb b1 s (-1) (-1)]) mixed (by kernel_rfl) (fun w12 hw12 hh12 => ?_)
              have hp12 := hp11.keep hw12
              have hS12 := hp12.pick [1] (by decide)
              refine WH.pure 0 (by kernel_rfl) rfl (by kernel_rfl) rfl rfl rfl (hS12) ?_
              refine WH.pure 1 (by kernel_rfl) rfl (by kernel_rfl) rfl rfl rfl (hS12) ?_
              refine WH.pure 2 (by kernel_rfl) rfl (by kernel_rfl) rfl rfl rfl (hS12) ?_
              refine WH.pure 3 (by kernel_rfl) rfl (by kernel_rfl) rfl rfl rfl (hS12) ?_
              refine WH.pure 6 (by kernel_rfl) rfl (by kernel_rfl) rfl rfl rfl (hS12) ?_
              refine WH.ix1 4 (j := k) (by kernel_rfl) rfl (by kernel_rfl) rfl rfl rfl rfl rfl rfl rfl hk hS12 ?_
              refine WH.load 5 (by kernel_rfl) rfl (by kernel_rfl) rfl rfl rfl rfl rfl (fun w' h => Sl.cell (hS.hp h) (by rw [zs_at hk, ← hmk])) hS12 ?_
              refine WH.load 7 (by kernel_rfl) rfl (by kernel_rfl) rfl rfl rfl rfl rfl (fun w' h => cell_of_obj (h.obj 0 rfl) (j := 0) rfl) hS12 ?_
              refine WH.one 8 rfl (by kernel_rfl) ?_
              refine WL.call rfl rfl rfl rfl rfl ent52 (Has_any s hs hst hsf m hmr.1 hmr.2 w12) ?_
              rintro _ w13 ⟨rfl, hw13⟩
              obtain rfl := hw13.symm
              refine WL.nil ⟨hS12, ?_⟩
              refine WH.ix1 9 (j := k) (by kernel_rfl) rfl (by kernel_rfl) rfl rfl rfl rfl rfl rfl rfl hk hS12 ?_
              refine WH.one 10 rfl (by kernel_rfl) ?_
              refine WL.store rfl rfl rfl rfl rfl rfl (hp12.obj 0 rfl) (by rw [List.size_toArray, bl_len]; omega) (fun w14 h14 => ?_)
              rw [Nat.zero_add, bl_set] at h14
              have hp14 := hp12.set 0 rfl rfl h14
              refine WL.nil ⟨hp14.pick [1] (by decide), WH.done (by kernel_rfl) ?_⟩
              refine ⟨(), ⟨rfl, rfl, rfl, rfl, rfl, rfl, rfl, rfl, rfl, rfl, rfl⟩, ?_⟩
              rw [hgr]
              exact hp14
          · have hs2 : s = wNot ∨ s = wNext ∨ s = wAlways ∨ s = wFinally := by simpa [onesL] using hs
            repeat (first | refine WC.seq ?_ | refine WC.reg ?_ | refine WL.pure rfl rfl rfl ?_ | refine WL.nil ?_ | refine WC.skip ?_ | refine WC.block ?_ | refine WC.condT rfl ?_ | refine WC.condF rfl ?_ | refine WL.off rfl rfl rfl ?_ | refine WL.off0 rfl rfl ?_ | refine WC.exit ?_ | refine blk_hit ?_ | refine blk_miss rfl ?_ | refine WC.ret ?_)
            refine WL.loadB rfl rfl rfl rfl rfl (hp11.obj 1 rfl) (j := 1) rfl ?_
            repeat (first | refine WC.seq ?_ | refine WC.reg ?_ | refine WL.pure rfl rfl rfl ?_ | refine WL.nil ?_ | refine WC.skip ?_ | refine WC.block ?_ | refine WC.condT rfl ?_ | refine WC.condF rfl ?_ | refine WL.off rfl rfl rfl ?_ | refine WL.off0 rfl rfl ?_ | refine WC.exit ?_ | refine blk_hit ?_ | refine blk_miss rfl ?_ | refine WC.ret ?_)
            refine WL.loadB rfl rfl rfl rfl rfl (hp11.obj 1 rfl) (j := 1) rfl ?_
            refine WL.ixload (j := a) rfl (fun _ => rfl) rfl rfl rfl rfl rfl rfl rfl ha rfl rfl (Sl.of_row (hp11.at 2 rfl)) (bvV_at ha) ?_
            intro qa
            repeat (first | refine WC.seq ?_ | refine WC.reg ?_ | refine WL.pure rfl rfl rfl ?_ | refine WL.nil ?_ | refine WC.skip ?_ | refine WC.block ?_ | refine WC.condT rfl ?_ | refine WC.condF rfl ?_ | refine WL.off rfl rfl rfl ?_ | refine WL.off0 rfl rfl ?_ | refine WC.exit ?_ | refine blk_hit ?_ | refine blk_miss rfl ?_ | refine WC.ret ?_)
            refine WL.ix1 rfl rfl rfl rfl rfl rfl rfl hk ?_
            refine WL.load rfl rfl rfl rfl rfl (bag_cell hp11 ha (by rw [(hInv a _ (List.getElem?_eq_getElem ha)).1]; exact hk)) ?_
            rw [← hav]
            repeat (first | refine WC.seq ?_ | refine WC.reg ?_ | refine WL.pure rfl rfl rfl ?_ | refine WL.nil ?_ | refine WC.skip ?_ | refine WC.block ?_ | refine WC.condT rfl ?_ | refine WC.condF rfl ?_ | refine WL.off rfl rfl rfl ?_ | refine WL.off0 rfl rfl ?_ | refine WC.exit ?_ | refine blk_hit ?_ | refine blk_miss rfl ?_ | refine WC.ret ?_)
            refine WL.loadB rfl rfl rfl rfl rfl (hp11.obj 1 rfl) (j := 2) rfl ?_
            repeat (first | refine WC.seq ?_ | refine WC.reg ?_ | refine WL.pure rfl rfl rfl ?_ | refine WL.nil ?_ | refine WC.skip ?_ | refine WC.block ?_ | refine WC.condT rfl ?_ | refine WC.condF rfl ?_ | refine WL.off rfl rfl rfl ?_ | refine WL.off0 rfl rfl ?_ | refine WC.exit ?_ | refine blk_hit ?_ | refine blk_miss rfl ?_ | refine WC.ret ?_)
            refine WL.loadB rfl rfl rfl rfl rfl (hp11.obj 1 rfl) (j := 0) rfl ?_
            repeat (first | refine WC.seq ?_ | refine WC.reg ?_ | refine WL.pure rfl rfl rfl ?_ | refine WL.nil ?_ | refine WC.skip ?_ | refine WC.block ?_ | refine WC.condT rfl ?_ | refine WC.condF rfl ?_ | refine WL.off rfl rfl rfl ?_ | refine WL.off0 rfl rfl ?_ | refine WC.exit ?_ | refine blk_hit ?_ | refine blk_miss rfl ?_ | refine WC.ret ?_)
            rcases hs2 with rfl | rfl | rfl | rfl
            · refine WL.sCmp (a := wNot) (b := wTrue) rfl rfl rfl rfl rfl ?_
              repeat (first | refine WC.seq ?_ | refine WC.reg ?_ | refine WL.pure rfl rfl rfl ?_ | refine WL.nil ?_ | refine WC.skip ?_ | refine WC.block ?_ | refine WC.condT rfl ?_ | refine WC.condF rfl ?_ | refine WL.off rfl rfl rfl ?_ | refine WL.off0 rfl rfl ?_ | refine WC.exit ?_ | refine blk_hit ?_ | refine blk_miss rfl ?_ | refine WC.ret ?_)
              refine WL.sCmp (a := wNot) (b := wFalse) rfl rfl rfl rfl rfl ?_
              repeat (first | refine WC.seq ?_ | refine WC.reg ?_ | refine WL.pure rfl rfl rfl ?_ | refine WL.nil ?_ | refine WC.skip ?_ | refine WC.block ?_ | refine WC.condT rfl ?_ | refine WC.condF rfl ?_ | refine WL.off rfl rfl rfl ?_ | refine WL.off0 rfl rfl ?_ | refine WC.exit ?_ | refine blk_hit ?_ | refine blk_miss rfl ?_ | refine WC.ret ?_)
              refine WL.sCmp (a := wNot) (b := wNot) rfl rfl rfl rfl rfl ?_
              repeat (first | refine WC.seq ?_ | refine WC.reg ?_ | refine WL.pure rfl rfl rfl ?_ | refine WL.nil ?_ | refine WC.skip ?_ | refine WC.block ?_ | refine WC.condT rfl ?_ | refine WC.condF rfl ?_ | refine WL.off rfl rfl rfl ?_ | refine WL.off0 rfl rfl ?_ | refine WC.exit ?_ | refine blk_hit ?_ | refine blk_miss rfl ?_ | refine WC.ret ?_)
              refine WL.ix1 rfl rfl rfl rfl rfl rfl rfl hk ?_
              refine WL.store rfl rfl rfl rfl rfl rfl (hp11.obj 0 rfl) (by rw [List.size_toArray, bl_len]; omega) (fun w12 h12 => ?_)
              rw [Nat.zero_add, bl_set] at h12
              have hp12 := hp11.set 0 rfl rfl h12
              repeat (first | refine WC.seq ?_ | refine WC.reg ?_ | refine WL.pure rfl rfl rfl ?_ | refine WL.nil ?_ | refine WC.skip ?_ | refine WC.block ?_ | refine WC.condT rfl ?_ | refine WC.condF rfl ?_ | refine WL.off rfl rfl rfl ?_ | refine WL.off0 rfl rfl ?_ | refine WC.exit ?_ | refine blk_hit ?_ | refine blk_miss rfl ?_ | refine WC.ret ?_)
              refine ⟨(), ⟨rfl, rfl, rfl, rfl, rfl, rfl, rfl, rfl, rfl, rfl, rfl⟩, ?_⟩
              rw [show gR wNot bs[a].2 [] ms lp k xv = !av from by rw [hav]; rfl]
              exact hp12
            · refine WL.sCmp (a := wNext) (b := wTrue) rfl rfl rfl rfl rfl ?_
              repeat (first | refine WC.seq ?_ | refine WC.reg ?_ | refine WL.pure rfl rfl rfl ?_ | refine WL.nil ?_ | refine WC.skip ?_ | refine WC.block ?_ | refine WC.condT rfl ?_ | refine WC.condF rfl ?_ | refine WL.off rfl rfl rfl ?_ | refine WL.off0 rfl rfl ?_ | refine WC.exit ?_ | refine blk_hit ?_ | refine blk_miss rfl ?_ | refine WC.ret ?_)
              refine WL.sCmp (a := wNext) (b := wFalse) rfl rfl rfl rfl rfl ?_
              repeat (first | refine WC.seq ?_ | refine WC.reg ?_ | refine WL.pure rfl rfl rfl ?_ | refine WL.nil ?_ | refine WC.skip ?_ | refine WC.block ?_ | refine WC.condT rfl ?_ | refine WC.condF rfl ?_ | refine WL.off rfl rfl rfl ?_ | refine WL.off0 rfl rfl ?_ | refine WC.exit ?_ | refine blk_hit ?_ | refine blk_miss rfl ?_ | refine WC.ret ?_)
              refine WL.sCmp (a := wNext) (b := wNot) rfl rfl rfl rfl rfl ?_
              repeat (first | refine WC.seq ?_ | refine WC.reg ?_ | refine WL.pure rfl rfl rfl ?_ | refine WL.nil ?_ | refine WC.skip ?_ | refine WC.block ?_ | refine WC.condT rfl ?_ | refine WC.condF rfl ?_ | refine WL.off rfl rfl rfl ?_ | refine WL.off0 rfl rfl ?_ | refine WC.exit ?_ | refine blk_hit ?_ | refine blk_miss rfl ?_ | refine WC.ret ?_)
              refine WL.sCmp (a := wNext) (b := wAnd) rfl rfl rfl rfl rfl ?_
              repeat (first | refine WC.seq ?_ | refine WC.reg ?_ | refine WL.pure rfl rfl rfl ?_ | refine WL.nil ?_ | refine WC.skip ?_ | refine WC.block ?_ | refine WC.condT rfl ?_ | refine WC.condF rfl ?_ | refine WL.off rfl rfl rfl ?_ | refine WL.off0 rfl rfl ?_ | refine WC.exit ?_ | refine blk_hit ?_ | refine blk_miss rfl ?_ | refine WC.ret ?_)
              refine WL.sCmp (a := wNext) (b := wOr) rfl rfl rfl rfl rfl ?_
              repeat (first | refine WC.seq ?_ | refine WC.reg ?_ | refine WL.pure rfl rfl rfl ?_ | refine WL.nil ?_ | refine WC.skip ?_ | refine WC.block ?_ | refine WC.condT rfl ?_ | refine WC.condF rfl ?_ | refine WL.off rfl rfl rfl ?_ | refine WL.off0 rfl rfl ?_ | refine WC.exit ?_ | refine blk_hit ?_ | refine blk_miss rfl ?_ | refine WC.ret ?_)
              refine WL.sCmp (a := wNext) (b := wNext) rfl rfl rfl rfl rfl ?_
              repeat (first | refine WC.seq ?_ | refine WC.reg ?_ | refine WL.pure rfl rfl rfl ?_ | refine WL.nil ?_ | refine WC.skip ?_ | refine WC.block ?_ | refine WC.condT rfl ?_ | refine WC.condF rfl ?_ | refine WL.off rfl rfl rfl ?_ | refine WL.off0 rfl rfl ?_ | refine WC.exit ?_ | refine blk_hit ?_ | refine blk_miss rfl ?_ | refine WC.ret ?_)
              refine WL.loadB rfl rfl rfl rfl rfl (hp11.obj 1 rfl) (j := 1) rfl ?_
              refine WL.ixload (j := a) rfl (fun _ => rfl) rfl rfl rfl rfl rfl rfl rfl ha rfl rfl (Sl.of_row (hp11.at 2 rfl)) (bvV_at ha) ?_
              intro qn
              repeat (first | refine WC.seq ?_ | refine WC.reg ?_ | refine WL.pure rfl rfl rfl ?_ | refine WL.nil ?_ | refine WC.skip ?_ | refine WC.block ?_ | refine WC.condT rfl ?_ | refine WC.condF rfl ?_ | refine WL.off rfl rfl rfl ?_ | refine WL.off0 rfl rfl ?_ | refine WC.exit ?_ | refine blk_hit ?_ | refine blk_miss rfl ?_ | refine WC.ret ?_)
              refine WL.ix1 rfl rfl rfl rfl rfl rfl rfl hax ?_
              refine WL.load rfl rfl rfl rfl rfl (bag_cell hp11 ha (by rw [(hInv a _ (List.getElem?_eq_getElem ha)).1]; exact hax)) ?_
              refine WL.ix1 rfl rfl rfl rfl rfl rfl rfl hk ?_
              refine WL.store rfl rfl rfl rfl rfl rfl (hp11.obj 0 rfl) (by rw [List.size_toArray, bl_len]; omega) (fun w12 h12 => ?_)
              rw [Nat.zero_add, bl_set] at h12
              have hp12 := hp11.set 0 rfl rfl h12
              repeat (first | refine WC.seq ?_ | refine WC.reg ?_ | refine WL.pure rfl rfl rfl ?_ | refine WL.nil ?_ | refine WC.skip ?_ | refine WC.block ?_ | refine WC.condT rfl ?_ | refine WC.condF rfl ?_ | refine WL.off rfl rfl rfl ?_ | refine WL.off0 rfl rfl ?_ | refine WC.exit ?_ | refine blk_hit ?_ | refine blk_miss rfl ?_ | refine WC.ret ?_)
              refine ⟨(), ⟨rfl, rfl, rfl, rfl, rfl, rfl, rfl, rfl, rfl, rfl, rfl⟩, ?_⟩
              rw [show gR wNext bs[a].2 [] ms lp k xv = bs[a].2.getD nx false from by rw [hnx]; rfl]
              exact hp12
            · refine WL.sCmp (a := wAlways) (b := wTrue) rfl rfl rfl rfl rfl ?_
              repeat (first | refine WC.seq ?_ | refine WC.reg ?_ | refine WL.pure rfl rfl rfl ?_ | refine WL.nil ?_ | refine WC.skip ?_ | refine WC.block ?_ | refine WC.condT rfl ?_ | refine WC.condF rfl ?_ | refine WL.off rfl rfl rfl ?_ | refine WL.off0 rfl rfl ?_ | refine WC.exit ?_ | refine blk_hit ?_ | refine blk_miss rfl ?_ | refine WC.ret ?_)
              refine WL.sCmp (a := wAlways) (b := wFalse) rfl rfl rfl rfl rfl ?_
              repeat (first | refine WC.seq ?_ | refine WC.reg ?_ | refine WL.pure rfl rfl rfl ?_ | refine WL.nil ?_ | refine WC.skip ?_ | refine WC.block ?_ | refine WC.condT rfl ?_ | refine WC.condF rfl ?_ | refine WL.off rfl rfl rfl ?_ | refine WL.off0 rfl rfl ?_ | refine WC.exit ?_ | refine blk_hit ?_ | refine blk_miss rfl ?_ | refine WC.ret ?_)
              refine WL.sCmp (a := wAlways) (b := wNot) rfl rfl rfl rfl rfl ?_
              repeat (first | refine WC.seq ?_ | refine WC.reg ?_ | refine WL.pure rfl rfl rfl ?_ | refine WL.nil ?_ | refine WC.skip ?_ | refine WC.block ?_ | refine WC.condT rfl ?_ | refine WC.condF rfl ?_ | refine WL.off rfl rfl rfl ?_ | refine WL.off0 rfl rfl ?_ | refine WC.exit ?_ | refine blk_hit ?_ | refine blk_miss rfl ?_ | refine WC.ret ?_)
              refine WL.sCmp (a := wAlways) (b := wAnd) rfl rfl rfl rfl rfl ?_
              repeat (first | refine WC.seq ?_ | refine WC.reg ?_ | refine WL.pure rfl rfl rfl ?_ | refine WL.nil ?_ | refine WC.skip ?_ | refine WC.block ?_ | refine WC.condT rfl ?_ | refine WC.condF rfl ?_ | refine WL.off rfl rfl rfl ?_ | refine WL.off0 rfl rfl ?_ | refine WC.exit ?_ | refine blk_hit ?_ | refine blk_miss rfl ?_ | refine WC.ret ?_)
              refine WL.sCmp (a := wAlways) (b := wOr) rfl rfl rfl rfl rfl ?_
              repeat (first | refine WC.seq ?_ | refine WC.reg ?_ | refine WL.pure rfl rfl rfl ?_ | refine WL.nil ?_ | refine WC.skip ?_ | refine WC.block ?_ | refine WC.condT rfl ?_ | refine WC.condF rfl ?_ | refine WL.off rfl rfl rfl ?_ | refine WL.off0 rfl rfl ?_ | refine WC.exit ?_ | refine blk_hit ?_ | refine blk_miss rfl ?_ | refine WC.ret ?_)
              refine WL.sCmp (a := wAlways) (b := wNext) rfl rfl rfl rfl rfl ?_
              repeat (first | refine WC.seq ?_ | refine WC.reg ?_ | refine WL.pure rfl rfl rfl ?_ | refine WL.nil ?_ | refine WC.skip ?_ | refine WC.block ?_ | refine WC.condT rfl ?_ | refine WC.condF rfl ?_ | refine WL.off rfl rfl rfl ?_ | refine WL.off0 rfl rfl ?_ | refine WC.exit ?_ | refine blk_hit ?_ | refine blk_miss rfl ?_ | refine WC.ret ?_)
              refine WL.sCmp (a := wAlways) (b := wUntil) rfl rfl rfl rfl rfl ?_
              repeat (first | refine WC.seq ?_ | refine WC.reg ?_ | refine WL.pure rfl rfl rfl ?_ | refine WL.nil ?_ | refine WC.skip ?_ | refine WC.block ?_ | refine WC.condT rfl ?_ | refine WC.condF rfl ?_ | refine WL.off rfl rfl rfl ?_ | refine WL.off0 rfl rfl ?_ | refine WC.exit ?_ | refine blk_hit ?_ | refine blk_miss rfl ?_ | refine WC.ret ?_)
              refine WL.sCmp (a := wAlways) (b := wRelease) rfl rfl rfl rfl rfl ?_
              repeat (first | refine WC.seq ?_ | refine WC.reg ?_ | refine WL.pure rfl rfl rfl ?_ | refine WL.nil ?_ | refine WC.skip ?_ | refine WC.block ?_ | refine WC.condT rfl ?_ | refine WC.condF rfl ?_ | refine WL.off rfl rfl rfl ?_ | refine WL.off0 rfl rfl ?_ | refine WC.exit ?_ | refine blk_hit ?_ | refine blk_miss rfl ?_ | refine WC.ret ?_)
              refine WL.sCmp (a := wAlways) (b := wAlways) rfl rfl rfl rfl rfl ?_
              repeat (first | refine WC.seq ?_ | refine WC.reg ?_ | refine WL.pure rfl rfl rfl ?_ | refine WL.nil ?_ | refine WC.skip ?_ | refine WC.block ?_ | refine WC.condT rfl ?_ | refine WC.condF rfl ?_ | refine WL.off rfl rfl rfl ?_ | refine WL.off0 rfl rfl ?_ | refine WC.exit ?_ | refine blk_hit ?_ | refine blk_miss rfl ?_ | refine WC.ret ?_)
              cases av
              · repeat (first | refine WC.seq ?_ | refine WC.reg ?_ | refine WL.pure rfl rfl rfl ?_ | refine WL.nil ?_ | refine WC.skip ?_ | refine WC.block ?_ | refine WC.condT rfl ?_ | refine WC.condF rfl ?_ | refine WL.off rfl rfl rfl ?_ | refine WL.off0 rfl rfl ?_ | refine WC.exit ?_ | refine blk_hit ?_ | refine blk_miss rfl ?_ | refine WC.ret ?_)
                refine WL.ix1 rfl rfl rfl rfl rfl rfl rfl hk ?_
                refine WL.store rfl rfl rfl rfl rfl rfl (hp11.obj 0 rfl) (by rw [List.size_toArray, bl_len]; omega) (fun w12 h12 => ?_)
                rw [Nat.zero_add, bl_set] at h12
                have hp12 := hp11.set 0 rfl rfl h12
                repeat (first | refine WC.seq ?_ | refine WC.reg ?_ | refine WL.pure rfl rfl rfl ?_ | refine WL.nil ?_ | refine WC.skip ?_ | refine WC.block ?_ | refine WC.condT rfl ?_ | refine WC.condF rfl ?_ | refine WL.off rfl rfl rfl ?_ | refine WL.off0 rfl rfl ?_ | refine WC.exit ?_ | refine blk_hit ?_ | refine blk_miss rfl ?_ | refine WC.ret ?_)
                refine ⟨(), ⟨rfl, rfl, rfl, rfl, rfl, rfl, rfl, rfl, rfl, rfl, rfl⟩, ?_⟩
                rw [show gR wAlways bs[a].2 [] ms lp k xv = false from (show (bs[a].2.getD k false && xv) = false by rw [← hav]; rfl)]
                exact hp12
              · repeat (first | refine WC.seq ?_ | refine WC.reg ?_ | refine WL.pure rfl rfl rfl ?_ | refine WL.nil ?_ | refine WC.skip ?_ | refine WC.block ?_ | refine WC.condT rfl ?_ | refine WC.condF rfl ?_ | refine WL.off rfl rfl rfl ?_ | refine WL.off0 rfl rfl ?_ | refine WC.exit ?_ | refine blk_hit ?_ | refine blk_miss rfl ?_ | refine WC.ret ?_)
                refine WL.ix1 rfl rfl rfl rfl rfl rfl rfl hax ?_
                refine WL.load rfl rfl rfl rfl rfl hcx ?_
                repeat (first | refine WC.seq ?_ | refine WC.reg ?_ | refine WL.pure rfl rfl rfl ?_ | refine WL.nil ?_ | refine WC.skip ?_ | refine WC.block ?_ | refine WC.condT rfl ?_ | refine WC.condF rfl ?_ | refine WL.off rfl rfl rfl ?_ | refine WL.off0 rfl rfl ?_ | refine WC.exit ?_ | refine blk_hit ?_ | refine blk_miss rfl ?_ | refine WC.ret ?_)
                refine WL.ix1 rfl rfl rfl rfl rfl rfl rfl hk ?_
                refine WL.store rfl rfl rfl rfl rfl rfl (hp11.obj 0 rfl) (by rw [List.size_toArray, bl_len]; omega) (fun w12 h12 => ?_)
                rw [Nat.zero_add, bl_set] at h12
                have hp12 := hp11.set 0 rfl rfl h12
                repeat (first | refine WC.seq ?_ | refine WC.reg ?_ | refine WL.pure rfl rfl rfl ?_ | refine WL.nil ?_ | refine WC.skip ?_ | refine WC.block ?_ | refine WC.condT rfl ?_ | refine WC.condF rfl ?_ | refine WL.off rfl rfl rfl ?_ | refine WL.off0 rfl rfl ?_ | refine WC.exit ?_ | refine blk_hit ?_ | refine blk_miss rfl ?_ | refine WC.ret ?_)
                refine ⟨(), ⟨rfl, rfl, rfl, rfl, rfl, rfl, rfl, rfl, rfl, rfl, rfl⟩, ?_⟩
                rw [show gR wAlways bs[a].2 [] ms lp k xv = xv from (show (bs[a].2.getD k false && xv) = xv by rw [← hav]; rfl)]
                exact hp12
            · refine WL.sCmp (a := wFinally) (b := wTrue) rfl rfl rfl rfl rfl ?_
              repeat (first | refine WC.seq ?_ | refine WC.reg ?_ | refine WL.pure rfl rfl rfl ?_ | refine WL.nil ?_ | refine WC.skip ?_ | refine WC.block ?_ | refine WC.condT rfl ?_ | refine WC.condF rfl ?_ | refine WL.off rfl rfl rfl ?_ | refine WL.off0 rfl rfl ?_ | refine WC.exit ?_ | refine blk_hit ?_ | refine blk_miss rfl ?_ | refine WC.ret ?_)
              refine WL.sCmp (a := wFinally) (b := wFalse) rfl rfl rfl rfl rfl ?_
              repeat (first | refine WC.seq ?_ | refine WC.reg ?_ | refine WL.pure rfl rfl rfl ?_ | refine WL.nil ?_ | refine WC.skip ?_ | refine WC.block ?_ | refine WC.condT rfl ?_ | refine WC.condF rfl ?_ | refine WL.off rfl rfl rfl ?_ | refine WL.off0 rfl rfl ?_ | refine WC.exit ?_ | refine blk_hit ?_ | refine blk_miss rfl ?_ | refine WC.ret ?_)
              refine WL.sCmp (a := wFinally) (b := wNot) rfl rfl rfl rfl rfl ?_
              repeat (first | refine WC.seq ?_ | refine WC.reg ?_ | refine WL.pure rfl rfl rfl ?_ | refine WL.nil ?_ | refine WC.skip ?_ | refine WC.block ?_ | refine WC.condT rfl ?_ | refine WC.condF rfl ?_ | refine WL.off rfl rfl rfl ?_ | refine WL.off0 rfl rfl ?_ | refine WC.exit ?_ | refine blk_hit ?_ | refine blk_miss rfl ?_ | refine WC.ret ?_)
              refine WL.sCmp (a := wFinally) (b := wAnd) rfl rfl rfl rfl rfl ?_
              repeat (first | refine WC.seq ?_ | refine WC.reg ?_ | refine WL.pure rfl rfl rfl ?_ | refine WL.nil ?_ | refine WC.skip ?_ | refine WC.block ?_ | refine WC.condT rfl ?_ | refine WC.condF rfl ?_ | refine WL.off rfl rfl rfl ?_ | refine WL.off0 rfl rfl ?_ | refine WC.exit ?_ | refine blk_hit ?_ | refine blk_miss rfl ?_ | refine WC.ret ?_)
              refine WL.sCmp (a := wFinally) (b := wOr) rfl rfl rfl rfl rfl ?_
              repeat (first | refine WC.seq ?_ | refine WC.reg ?_ | refine WL.pure rfl rfl rfl ?_ | refine WL.nil ?_ | refine WC.skip ?_ | refine WC.block ?_ | refine WC.condT rfl ?_ | refine WC.condF rfl ?_ | refine WL.off rfl rfl rfl ?_ | refine WL.off0 rfl rfl ?_ | refine WC.exit ?_ | refine blk_hit ?_ | refine blk_miss rfl ?_ | refine WC.ret ?_)
              refine WL.sCmp (a := wFinally) (b := wNext) rfl rfl rfl rfl rfl ?_
              repeat (first | refine WC.seq ?_ | refine WC.reg ?_ | refine WL.pure rfl rfl rfl ?_ | refine WL.nil ?_ | refine WC.skip ?_ | refine WC.block ?_ | refine WC.condT rfl ?_ | refine WC.condF rfl ?_ | refine WL.off rfl rfl rfl ?_ | refine WL.off0 rfl rfl ?_ | refine WC.exit ?_ | refine blk_hit ?_ | refine blk_miss rfl ?_ | refine WC.ret ?_)
              refine WL.sCmp (a := wFinally) (b := wUntil) rfl rfl rfl rfl rfl ?_
              repeat (first | refine WC.seq ?_ | refine WC.reg ?_ | refine WL.pure rfl rfl rfl ?_ | refine WL.nil ?_ | refine WC.skip ?_ | refine WC.block ?_ | refine WC.condT rfl ?_ | refine WC.condF rfl ?_ | refine WL.off rfl rfl rfl ?_ | refine WL.off0 rfl rfl ?_ | refine WC.exit ?_ | refine blk_hit ?_ | refine blk_miss rfl ?_ | refine WC.ret ?_)
              refine WL.sCmp (a := wFinally) (b := wRelease) rfl rfl rfl rfl rfl ?_
              repeat (first | refine WC.seq ?_ | refine WC.reg ?_ | refine WL.pure rfl rfl rfl ?_ | refine WL.nil ?_ | refine WC.skip ?_ | refine WC.block ?_ | refine WC.condT rfl ?_ | refine WC.condF rfl ?_ | refine WL.off rfl rfl rfl ?_ | refine WL.off0 rfl rfl ?_ | refine WC.exit ?_ | refine blk_hit ?_ | refine blk_miss rfl ?_ | refine WC.ret ?_)
              refine WL.sCmp (a := wFinally) (b := wAlways) rfl rfl rfl rfl rfl ?_
              repeat (first | refine WC.seq ?_ | refine WC.reg ?_ | refine WL.pure rfl rfl rfl ?_ | refine WL.nil ?_ | refine WC.skip ?_ | refine WC.block ?_ | refine WC.condT rfl ?_ | refine WC.condF rfl ?_ | refine WL.off rfl rfl rfl ?_ | refine WL.off0 rfl rfl ?_ | refine WC.exit ?_ | refine blk_hit ?_ | refine blk_miss rfl ?_ | refine WC.ret ?_)
              refine WL.sCmp (a := wFinally) (b := wFinally) rfl rfl rfl rfl rfl ?_
              repeat (first | refine WC.seq ?_ | refine WC.reg ?_ | refine WL.pure rfl rfl rfl ?_ | refine WL.nil ?_ | refine WC.skip ?_ | refine WC.block ?_ | refine WC.condT rfl ?_ | refine WC.condF rfl ?_ | refine WL.off rfl rfl rfl ?_ | refine WL.off0 rfl rfl ?_ | refine WC.exit ?_ | refine blk_hit ?_ | refine blk_miss rfl ?_ | refine WC.ret ?_)
              cases av
              · repeat (first | refine WC.seq ?_ | refine WC.reg ?_ | refine WL.pure rfl rfl rfl ?_ | refine WL.nil ?_ | refine WC.skip ?_ | refine WC.block ?_ | refine WC.condT rfl ?_ | refine WC.condF rfl ?_ | refine WL.off rfl rfl rfl ?_ | refine WL.off0 rfl rfl ?_ | refine WC.exit ?_ | refine blk_hit ?_ | refine blk_miss rfl ?_ | refine WC.ret ?_)
                refine WL.ix1 rfl rfl rfl rfl rfl rfl rfl hax ?_
                refine WL.load rfl rfl rfl rfl rfl hcx ?_
                repeat (first | refine WC.seq ?_ | refine WC.reg ?_ | refine WL.pure rfl rfl rfl ?_ | refine WL.nil ?_ | refine WC.skip ?_ | refine WC.block ?_ | refine WC.condT rfl ?_ | refine WC.condF rfl ?_ | refine WL.off rfl rfl rfl ?_ | refine WL.off0 rfl rfl ?_ | refine WC.exit ?_ | refine blk_hit ?_ | refine blk_miss rfl ?_ | refine WC.ret ?_)
                refine WL.ix1 rfl rfl rfl rfl rfl rfl rfl hk ?_
                refine WL.store rfl rfl rfl rfl rfl rfl (hp11.obj 0 rfl) (by rw [List.size_toArray, bl_len]; omega) (fun w12 h12 => ?_)
                rw [Nat.zero_add, bl_set] at h12
                have hp12 := hp11.set 0 rfl rfl h12
                repeat (first | refine WC.seq ?_ | refine WC.reg ?_ | refine WL.pure rfl rfl rfl ?_ | refine WL.nil ?_ | refine WC.skip ?_ | refine WC.block ?_ | refine WC.condT rfl ?_ | refine WC.condF rfl ?_ | refine WL.off rfl rfl rfl ?_ | refine WL.off0 rfl rfl ?_ | refine WC.exit ?_ | refine blk_hit ?_ | refine blk_miss rfl ?_ | refine WC.ret ?_)
                refine ⟨(), ⟨rfl, rfl, rfl, rfl, rfl, rfl, rfl, rfl, rfl, rfl, rfl⟩, ?_⟩
                rw [show gR wFinally bs[a].2 [] ms lp k xv = xv from (show (bs[a].2.getD k false || xv) = xv by rw [← hav]; rfl)]
                exact hp12
              · repeat (first | refine WC.seq ?_ | refine WC.reg ?_ | refine WL.pure rfl rfl rfl ?_ | refine WL.nil ?_ | refine WC.skip ?_ | refine WC.block ?_ | refine WC.condT rfl ?_ | refine WC.condF rfl ?_ | refine WL.off rfl rfl rfl ?_ | refine WL.off0 rfl rfl ?_ | refine WC.exit ?_ | refine blk_hit ?_ | refine blk_miss rfl ?_ | refine WC.ret ?_)
                refine WL.ix1 rfl rfl rfl rfl rfl rfl rfl hk ?_
                refine WL.store rfl rfl rfl rfl rfl rfl (hp11.obj 0 rfl) (by rw [List.size_toArray, bl_len]; omega) (fun w12 h12 => ?_)
                rw [Nat.zero_add, bl_set] at h12
                have hp12 := hp11.set 0 rfl rfl h12
                repeat (first | refine WC.seq ?_ | refine WC.reg ?_ | refine WL.pure rfl rfl rfl ?_ | refine WL.nil ?_ | refine WC.skip ?_ | refine WC.block ?_ | refine WC.condT rfl ?_ | refine WC.condF rfl ?_ | refine WL.off rfl rfl rfl ?_ | refine WL.off0 rfl rfl ?_ | refine WC.exit ?_ | refine blk_hit ?_ | refine blk_miss rfl ?_ | refine WC.ret ?_)
                refine ⟨(), ⟨rfl, rfl, rfl, rfl, rfl, rfl, rfl, rfl, rfl, rfl, rfl⟩, ?_⟩
                rw [show gR wFinally bs[a].2 [] ms lp k xv = true from (show (bs[a].2.getD k false || xv) = true by rw [← hav]; rfl)]
                exact hp12
          · have hs2 : s = wAnd ∨ s = wOr ∨ s = wUntil ∨ s = wRelease := by simpa [twosL] using hs
            repeat (first | refine WC.seq ?_ | refine WC.reg ?_ | refine WL.pure rfl rfl rfl ?_ | refine WL.nil ?_ | refine WC.skip ?_ | refine WC.block ?_ | refine WC.condT rfl ?_ | refine WC.condF rfl ?_ | refine WL.off rfl rfl rfl ?_ | refine WL.off0 rfl rfl ?_ | refine WC.exit ?_ | refine blk_hit ?_ | refine blk_miss rfl ?_ | refine WC.ret ?_)
            refine WL.loadB rfl rfl rfl rfl rfl (hp11.obj 1 rfl) (j := 1) rfl ?_
            repeat (first | refine WC.seq ?_ | refine WC.reg ?_ | refine WL.pure rfl rfl rfl ?_ | refine WL.nil ?_ | refine WC.skip ?_ | refine WC.block ?_ | refine WC.condT rfl ?_ | refine WC.condF rfl ?_ | refine WL.off rfl rfl rfl ?_ | refine WL.off0 rfl rfl ?_ | refine WC.exit ?_ | refine blk_hit ?_ | refine blk_miss rfl ?_ | refine WC.ret ?_)
            refine WL.loadB rfl rfl rfl rfl rfl (hp11.obj 1 rfl) (j := 1) rfl ?_
            refine WL.ixload (j := a) rfl (fun _ => rfl) rfl rfl rfl rfl rfl rfl rfl ha rfl rfl (Sl.of_row (hp11.at 2 rfl)) (bvV_at ha) ?_
            intro qa
            repeat (first | refine WC.seq ?_ | refine WC.reg ?_ | refine WL.pure rfl rfl rfl ?_ | refine WL.nil ?_ | refine WC.skip ?_ | refine WC.block ?_ | refine WC.condT rfl ?_ | refine WC.condF rfl ?_ | refine WL.off rfl rfl rfl ?_ | refine WL.off0 rfl rfl ?_ | refine WC.exit ?_ | refine blk_hit ?_ | refine blk_miss rfl ?_ | refine WC.ret ?_)
            refine WL.ix1 rfl rfl rfl rfl rfl rfl rfl hk ?_
            refine WL.load rfl rfl rfl rfl rfl (bag_cell hp11 ha (by rw [(hInv a _ (List.getElem?_eq_getElem ha)).1]; exact hk)) ?_
            rw [← hav]
            repeat (first | refine WC.seq ?_ | refine WC.reg ?_ | refine WL.pure rfl rfl rfl ?_ | refine WL.nil ?_ | refine WC.skip ?_ | refine WC.block ?_ | refine WC.condT rfl ?_ | refine WC.condF rfl ?_ | refine WL.off rfl rfl rfl ?_ | refine WL.off0 rfl rfl ?_ | refine WC.exit ?_ | refine blk_hit ?_ | refine blk_miss rfl ?_ | refine WC.ret ?_)
            refine WL.loadB rfl rfl rfl rfl rfl (hp11.obj 1 rfl) (j := 2) rfl ?_
            repeat (first | refine WC.seq ?_ | refine WC.reg ?_ | refine WL.pure rfl rfl rfl ?_ | refine WL.nil ?_ | refine WC.skip ?_ | refine WC.block ?_ | refine WC.condT rfl ?_ | refine WC.condF rfl ?_ | refine WL.off rfl rfl rfl ?_ | refine WL.off0 rfl rfl ?_ | refine WC.exit ?_ | refine blk_hit ?_ | refine blk_miss rfl ?_ | refine WC.ret ?_)
            refine WL.loadB rfl rfl rfl rfl rfl (hp11.obj 1 rfl) (j := 2) rfl ?_
            refine WL.ixload (j := b) rfl (fun _ => rfl) rfl rfl rfl rfl rfl rfl rfl hb rfl rfl (Sl.of_row (hp11.at 2 rfl)) (bvV_at hb) ?_
            intro qb
            repeat (first | refine WC.seq ?_ | refine WC.reg ?_ | refine WL.pure rfl rfl rfl ?_ | refine WL.nil ?_ | refine WC.skip ?_ | refine WC.block ?_ | refine WC.condT rfl ?_ | refine WC.condF rfl ?_ | refine WL.off rfl rfl rfl ?_ | refine WL.off0 rfl rfl ?_ | refine WC.exit ?_ | refine blk_hit ?_ | refine blk_miss rfl ?_ | refine WC.ret ?_)
            refine WL.ix1 rfl rfl rfl rfl rfl rfl rfl hk ?_
            refine WL.load rfl rfl rfl rfl rfl (bag_cell hp11 hb (by rw [(hInv b _ (List.getElem?_eq_getElem hb)).1]; exact hk)) ?_
            rw [← hbv]
            repeat (first | refine WC.seq ?_ | refine WC.reg ?_ | refine WL.pure rfl rfl rfl ?_ | refine WL.nil ?_ | refine WC.skip ?_ | refine WC.block ?_ | refine WC.condT rfl ?_ | refine WC.condF rfl ?_ | refine WL.off rfl rfl rfl ?_ | refine WL.off0 rfl rfl ?_ | refine WC.exit ?_ | refine blk_hit ?_ | refine blk_miss rfl ?_ | refine WC.ret ?_)
            refine WL.loadB rfl rfl rfl rfl rfl (hp11.obj 1 rfl) (j := 0) rfl ?_
            repeat (first | refine WC.seq ?_ | refine WC.reg ?_ | refine WL.pure rfl rfl rfl ?_ | refine WL.nil ?_ | refine WC.skip ?_ | refine WC.block ?_ | refine WC.condT rfl ?_ | refine WC.condF rfl ?_ | refine WL.off rfl rfl rfl ?_ | refine WL.off0 rfl rfl ?_ | refine WC.exit ?_ | refine blk_hit ?_ | refine blk_miss rfl ?_ | refine WC.ret ?_)
            rcases hs2 with rfl | rfl | rfl | rfl
            · refine WL.sCmp (a := wAnd) (b := wTrue) rfl rfl rfl rfl rfl ?_
              repeat (first | refine WC.seq ?_ | refine WC.reg ?_ | refine WL.pure rfl rfl rfl ?_ | refine WL.nil ?_ | refine WC.skip ?_ | refine WC.block ?_ | refine WC.condT rfl ?_ | refine WC.condF rfl ?_ | refine WL.off rfl rfl rfl ?_ | refine WL.off0 rfl rfl ?_ | refine WC.exit ?_ | refine blk_hit ?_ | refine blk_miss rfl ?_ | refine WC.ret ?_)
              refine WL.sCmp (a := wAnd) (b := wFalse) rfl rfl rfl rfl rfl ?_
              repeat (first | refine WC.seq ?_ | refine WC.reg ?_ | refine WL.pure rfl rfl rfl ?_ | refine WL.nil ?_ | refine WC.skip ?_ | refine WC.block ?_ | refine WC.condT rfl ?_ | refine WC.condF rfl ?_ | refine WL.off rfl rfl rfl ?_ | refine WL.off0 rfl rfl ?_ | refine WC.exit ?_ | refine blk_hit ?_ | refine blk_miss rfl ?_ | refine WC.ret ?_)
              refine WL.sCmp (a := wAnd) (b := wNot) rfl rfl rfl rfl rfl ?_
              repeat (first | refine WC.seq ?_ | refine WC.reg ?_ | refine WL.pure rfl rfl rfl ?_ | refine WL.nil ?_ | refine WC.skip ?_ | refine WC.block ?_ | refine WC.condT rfl ?_ | refine WC.condF rfl ?_ | refine WL.off rfl rfl rfl ?_ | refine WL.off0 rfl rfl ?_ | refine WC.exit ?_ | refine blk_hit ?_ | refine blk_miss rfl ?_ | refine WC.ret ?_)
              refine WL.sCmp (a := wAnd) (b := wAnd) rfl rfl rfl rfl rfl ?_
              repeat (first | refine WC.seq ?_ | refine WC.reg ?_ | refine WL.pure rfl rfl rfl ?_ | refine WL.nil ?_ | refine WC.skip ?_ | refine WC.block ?_ | refine WC.condT rfl ?_ | refine WC.condF rfl ?_ | refine WL.off rfl rfl rfl ?_ | refine WL.off0 rfl rfl ?_ | refine WC.exit ?_ | refine blk_hit ?_ | refine blk_miss rfl ?_ | refine WC.ret ?_)
              cases av
              · repeat (first | refine WC.seq ?_ | refine WC.reg ?_ | refine WL.pure rfl rfl rfl ?_ | refine WL.nil ?_ | refine WC.skip ?_ | refine WC.block ?_ | refine WC.condT rfl ?_ | refine WC.condF rfl ?_ | refine WL.off rfl rfl rfl ?_ | refine WL.off0 rfl rfl ?_ | refine WC.exit ?_ | refine blk_hit ?_ | refine blk_miss rfl ?_ | refine WC.ret ?_)
                refine WL.ix1 rfl rfl rfl rfl rfl rfl rfl hk ?_
                refine WL.store rfl rfl rfl rfl rfl rfl (hp11.obj 0 rfl) (by rw [List.size_toArray, bl_len]; omega) (fun w12 h12 => ?_)
                rw [Nat.zero_add, bl_set] at h12
                have hp12 := hp11.set 0 rfl rfl h12
                repeat (first | refine WC.seq ?_ | refine WC.reg ?_ | refine WL.pure rfl rfl rfl ?_ | refine WL.nil ?_ | refine WC.skip ?_ | refine WC.block ?_ | refine WC.condT rfl ?_ | refine WC.condF rfl ?_ | refine WL.off rfl rfl rfl ?_ | refine WL.off0 rfl rfl ?_ | refine WC.exit ?_ | refine blk_hit ?_ | refine blk_miss rfl ?_ | refine WC.ret ?_)
                refine ⟨(), ⟨rfl, rfl, rfl, rfl, rfl, rfl, rfl, rfl, rfl, rfl, rfl⟩, ?_⟩
                rw [show gR wAnd bs[a].2 bs[b].2 ms lp k xv = false from (show (bs[a].2.getD k false && bs[b].2.getD k false) = false by rw [← hav]; rfl)]
                exact hp12
              · repeat (first | refine WC.seq ?_ | refine WC.reg ?_ | refine WL.pure rfl rfl rfl ?_ | refine WL.nil ?_ | refine WC.skip ?_ | refine WC.block ?_ | refine WC.condT rfl ?_ | refine WC.condF rfl ?_ | refine WL.off rfl rfl rfl ?_ | refine WL.off0 rfl rfl ?_ | refine WC.exit ?_ | refine blk_hit ?_ | refine blk_miss rfl ?_ | refine WC.ret ?_)
                refine WL.ix1 rfl rfl rfl rfl rfl rfl rfl hk ?_
                refine WL.store rfl rfl rfl rfl rfl rfl (hp11.obj 0 rfl) (by rw [List.size_toArray, bl_len]; omega) (fun w12 h12 => ?_)
                rw [Nat.zero_add, bl_set] at h12
                have hp12 := hp11.set 0 rfl rfl h12
                repeat (first | refine WC.seq ?_ | refine WC.reg ?_ | refine WL.pure rfl rfl rfl ?_ | refine WL.nil ?_ | refine WC.skip ?_ | refine WC.block ?_ | refine WC.condT rfl ?_ | refine WC.condF rfl ?_ | refine WL.off rfl rfl rfl ?_ | refine WL.off0 rfl rfl ?_ | refine WC.exit ?_ | refine blk_hit ?_ | refine blk_miss rfl ?_ | refine WC.ret ?_)
                refine ⟨(), ⟨rfl, rfl, rfl, rfl, rfl, rfl, rfl, rfl, rfl, rfl, rfl⟩, ?_⟩
                rw [show gR wAnd bs[a].2 bs[b].2 ms lp k xv = bv from (show (bs[a].2.getD k false && bs[b].2.getD k false) = bv by rw [← hav, ← hbv]; rfl)]
                exact hp12
            · refine WL.sCmp (a := wOr) (b := wTrue) rfl rfl rfl rfl rfl ?_
              repeat (first | refine WC.seq ?_ | refine WC.reg ?_ | refine WL.pure rfl rfl rfl ?_ | refine WL.nil ?_ | refine WC.skip ?_ | refine WC.block ?_ | refine WC.condT rfl ?_ | refine WC.condF rfl ?_ | refine WL.off rfl rfl rfl ?_ | refine WL.off0 rfl rfl ?_ | refine WC.exit ?_ | refine blk_hit ?_ | refine blk_miss rfl ?_ | refine WC.ret ?_)
              refine WL.sCmp (a := wOr) (b := wFalse) rfl rfl rfl rfl rfl ?_
              repeat (first | refine WC.seq ?_ | refine WC.reg ?_ | refine WL.pure rfl rfl rfl ?_ | refine WL.nil ?_ | refine WC.skip ?_ | refine WC.block ?_ | refine WC.condT rfl ?_ | refine WC.condF rfl ?_ | refine WL.off rfl rfl rfl ?_ | refine WL.off0 rfl rfl ?_ | refine WC.exit ?_ | refine blk_hit ?_ | refine blk_miss rfl ?_ | refine WC.ret ?_)
              refine WL.sCmp (a := wOr) (b := wNot) rfl rfl rfl rfl rfl ?_
              repeat (first | refine WC.seq ?_ | refine WC.reg ?_ | refine WL.pure rfl rfl rfl ?_ | refine WL.nil ?_ | refine WC.skip ?_ | refine WC.block ?_ | refine WC.condT rfl ?_ | refine WC.condF rfl ?_ | refine WL.off rfl rfl rfl ?_ | refine WL.off0 rfl rfl ?_ | refine WC.exit ?_ | refine blk_hit ?_ | refine blk_miss rfl ?_ | refine WC.ret ?_)
              refine WL.sCmp (a := wOr) (b := wAnd) rfl rfl rfl rfl rfl ?_
              repeat (first | refine WC.seq ?_ | refine WC.reg ?_ | refine WL.pure rfl rfl rfl ?_ | refine WL.nil ?_ | refine WC.skip ?_ | refine WC.block ?_ | refine WC.condT rfl ?_ | refine WC.condF rfl ?_ | refine WL.off rfl rfl rfl ?_ | refine WL.off0 rfl rfl ?_ | refine WC.exit ?_ | refine blk_hit ?_ | refine blk_miss rfl ?_ | refine WC.ret ?_)
              refine WL.sCmp (a := wOr) (b := wOr) rfl rfl rfl rfl rfl ?_
              repeat (first | refine WC.seq ?_ | refine WC.reg ?_ | refine WL.pure rfl rfl rfl ?_ | refine WL.nil ?_ | refine WC.skip ?_ | refine WC.block ?_ | refine WC.condT rfl ?_ | refine WC.condF rfl ?_ | refine WL.off rfl rfl rfl ?_ | refine WL.off0 rfl rfl ?_ | refine WC.exit ?_ | refine blk_hit ?_ | refine blk_miss rfl ?_ | refine WC.ret ?_)
              cases av
              · repeat (first | refine WC.seq ?_ | refine WC.reg ?_ | refine WL.pure rfl rfl rfl ?_ | refine WL.nil ?_ | refine WC.skip ?_ | refine WC.block ?_ | refine WC.condT rfl ?_ | refine WC.condF rfl ?_ | refine WL.off rfl rfl rfl ?_ | refine WL.off0 rfl rfl ?_ | refine WC.exit ?_ | refine blk_hit ?_ | refine blk_miss rfl ?_ | refine WC.ret ?_)
                refine WL.ix1 rfl rfl rfl rfl rfl rfl rfl hk ?_
                refine WL.store rfl rfl rfl rfl rfl rfl (hp11.obj 0 rfl) (by rw [List.size_toArray, bl_len]; omega) (fun w12 h12 => ?_)
                rw [Nat.zero_add, bl_set] at h12
                have hp12 := hp11.set 0 rfl rfl h12
                repeat (first | refine WC.seq ?_ | refine WC.reg ?_ | refine WL.pure rfl rfl rfl ?_ | refine WL.nil ?_ | refine WC.skip ?_ | refine WC.block ?_ | refine WC.condT rfl ?_ | refine WC.condF rfl ?_ | refine WL.off rfl rfl rfl ?_ | refine WL.off0 rfl rfl ?_ | refine WC.exit ?_ | refine blk_hit ?_ | refine blk_miss rfl ?_ | refine WC.ret ?_)
                refine ⟨(), ⟨rfl, rfl, rfl, rfl, rfl, rfl, rfl, rfl, rfl, rfl, rfl⟩, ?_⟩
                rw [show gR wOr bs[a].2 bs[b].2 ms lp k xv = bv from (show (bs[a].2.getD k false || bs[b].2.getD k false) = bv by rw [← hav, ← hbv]; rfl)]
                exact hp12
              · repeat (first | refine WC.seq ?_ | refine WC.reg ?_ | refine WL.pure rfl rfl rfl ?_ | refine WL.nil ?_ | refine WC.skip ?_ | refine WC.block ?_ | refine WC.condT rfl ?_ | refine WC.condF rfl ?_ | refine WL.off rfl rfl rfl ?_ | refine WL.off0 rfl rfl ?_ | refine WC.exit ?_ | refine blk_hit ?_ | refine blk_miss rfl ?_ | refine WC.ret ?_)
                refine WL.ix1 rfl rfl rfl rfl rfl rfl rfl hk ?_
                refine WL.store rfl rfl rfl rfl rfl rfl (hp11.obj 0 rfl) (by rw [List.size_toArray, bl_len]; omega) (fun w12 h12 => ?_)
                rw [Nat.zero_add, bl_set] at h12
                have hp12 := hp11.set 0 rfl rfl h12
                repeat (first | refine WC.seq ?_ | refine WC.reg ?_ | refine WL.pure rfl rfl rfl ?_ | refine WL.nil ?_ | refine WC.skip ?_ | refine WC.block ?_ | refine WC.condT rfl ?_ | refine WC.condF rfl ?_ | refine WL.off rfl rfl rfl ?_ | refine WL.off0 rfl rfl ?_ | refine WC.exit ?_ | refine blk_hit ?_ | refine blk_miss rfl ?_ | refine WC.ret ?_)
                refine ⟨(), ⟨rfl, rfl, rfl, rfl, rfl, rfl, rfl, rfl, rfl, rfl, rfl⟩, ?_⟩
                rw [show gR wOr bs[a].2 bs[b].2 ms lp k xv = true from (show (bs[a].2.getD k false || bs[b].2.getD k false) = true by rw [← hav]; rfl)]
                exact hp12
            · refine WL.sCmp (a := wUntil) (b := wTrue) rfl rfl rfl rfl rfl ?_
              repeat (first | refine WC.seq ?_ | refine WC.reg ?_ | refine WL.pure rfl rfl rfl ?_ | refine WL.nil ?_ | refine WC.skip ?_ | refine WC.block ?_ | refine WC.condT rfl ?_ | refine WC.condF rfl ?_ | refine WL.off rfl rfl rfl ?_ | refine WL.off0 rfl rfl ?_ | refine WC.exit ?_ | refine blk_hit ?_ | refine blk_miss rfl ?_ | refine WC.ret ?_)
              refine WL.sCmp (a := wUntil) (b := wFalse) rfl rfl rfl rfl rfl ?_
              repeat (first | refine WC.seq ?_ | refine WC.reg ?_ | refine WL.pure rfl rfl rfl ?_ | refine WL.nil ?_ | refine WC.skip ?_ | refine WC.block ?_ | refine WC.condT rfl ?_ | refine WC.condF rfl ?_ | refine WL.off rfl rfl rfl ?_ | refine WL.off0 rfl rfl ?_ | refine WC.exit ?_ | refine blk_hit ?_ | refine blk_miss rfl ?_ | refine WC.ret ?_)
              refine WL.sCmp (a := wUntil) (b := wNot) rfl rfl rfl rfl rfl ?_
              repeat (first | refine WC.seq ?_ | refine WC.reg ?_ | refine WL.pure rfl rfl rfl ?_ | refine WL.nil ?_ | refine WC.skip ?_ | refine WC.block ?_ | refine WC.condT rfl ?_ | refine WC.condF rfl ?_ | refine WL.off rfl rfl rfl ?_ | refine WL.off0 rfl rfl ?_ | refine WC.exit ?_ | refine blk_hit ?_ | refine blk_miss rfl ?_ | refine WC.ret ?_)
              refine WL.sCmp (a := wUntil) (b := wAnd) rfl rfl rfl rfl rfl ?_
              repeat (first | refine WC.seq ?_ | refine WC.reg ?_ | refine WL.pure rfl rfl rfl ?_ | refine WL.nil ?_ | refine WC.skip ?_ | refine WC.block ?_ | refine WC.condT rfl ?_ | refine WC.condF rfl ?_ | refine WL.off rfl rfl rfl ?_ | refine WL.off0 rfl rfl ?_ | refine WC.exit ?_ | refine blk_hit ?_ | refine blk_miss rfl ?_ | refine WC.ret ?_)
              refine WL.sCmp (a := wUntil) (b := wOr) rfl rfl rfl rfl rfl ?_
              repeat (first | refine WC.seq ?_ | refine WC.reg ?_ | refine WL.pure rfl rfl rfl ?_ | refine WL.nil ?_ | refine WC.skip ?_ | refine WC.block ?_ | refine WC.condT rfl ?_ | refine WC.condF rfl ?_ | refine WL.off rfl rfl rfl ?_ | refine WL.off0 rfl rfl ?_ | refine WC.exit ?_ | refine blk_hit ?_ | refine blk_miss rfl ?_ | refine WC.ret ?_)
              refine WL.sCmp (a := wUntil) (b := wNext) rfl rfl rfl rfl rfl ?_
              repeat (first | refine WC.seq ?_ | refine WC.reg ?_ | refine WL.pure rfl rfl rfl ?_ | refine WL.nil ?_ | refine WC.skip ?_ | refine WC.block ?_ | refine WC.condT rfl ?_ | refine WC.condF rfl ?_ | refine WL.off rfl rfl rfl ?_ | refine WL.off0 rfl rfl ?_ | refine WC.exit ?_ | refine blk_hit ?_ | refine blk_miss rfl ?_ | refine WC.ret ?_)
              refine WL.sCmp (a := wUntil) (b := wUntil) rfl rfl rfl rfl rfl ?_
              repeat (first | refine WC.seq ?_ | refine WC.reg ?_ | refine WL.pure rfl rfl rfl ?_ | refine WL.nil ?_ | refine WC.skip ?_ | refine WC.block ?_ | refine WC.condT rfl ?_ | refine WC.condF rfl ?_ | refine WL.off rfl rfl rfl ?_ | refine WL.off0 rfl rfl ?_ | refine WC.exit ?_ | refine blk_hit ?_ | refine blk_miss rfl ?_ | refine WC.ret ?_)
              cases bv
              · cases av
                · repeat (first | refine WC.seq ?_ | refine WC.reg ?_ | refine WL.pure rfl rfl rfl ?_ | refine WL.nil ?_ | refine WC.skip ?_ | refine WC.block ?_ | refine WC.condT rfl ?_ | refine WC.condF rfl ?_ | refine WL.off rfl rfl rfl ?_ | refine WL.off0 rfl rfl ?_ | refine WC.exit ?_ | refine blk_hit ?_ | refine blk_miss rfl ?_ | refine WC.ret ?_)
                  refine WL.ix1 rfl rfl rfl rfl rfl rfl rfl hk ?_
                  refine WL.store rfl rfl rfl rfl rfl rfl (hp11.obj 0 rfl) (by rw [List.size_toArray, bl_len]; omega) (fun w12 h12 => ?_)
                  rw [Nat.zero_add, bl_set] at h12
                  have hp12 := hp11.set 0 rfl rfl h12
                  repeat (first | refine WC.seq ?_ | refine WC.reg ?_ | refine WL.pure rfl rfl rfl ?_ | refine WL.nil ?_ | refine WC.skip ?_ | refine WC.block ?_ | refine WC.condT rfl ?_ | refine WC.condF rfl ?_ | refine WL.off rfl rfl rfl ?_ | refine WL.off0 rfl rfl ?_ | refine WC.exit ?_ | refine blk_hit ?_ | refine blk_miss rfl ?_ | refine WC.ret ?_)
                  refine ⟨(), ⟨rfl, rfl, rfl, rfl, rfl, rfl, rfl, rfl, rfl, rfl, rfl⟩, ?_⟩
                  rw [show gR wUntil bs[a].2 bs[b].2 ms lp k xv = false from (show (bs[b].2.getD k false || (bs[a].2.getD k false && xv)) = false by rw [← hav, ← hbv]; rfl)]
                  exact hp12
                · repeat (first | refine WC.seq ?_ | refine WC.reg ?_ | refine WL.pure rfl rfl rfl ?_ | refine WL.nil ?_ | refine WC.skip ?_ | refine WC.block ?_ | refine WC.condT rfl ?_ | refine WC.condF rfl ?_ | refine WL.off rfl rfl rfl ?_ | refine WL.off0 rfl rfl ?_ | refine WC.exit ?_ | refine blk_hit ?_ | refine blk_miss rfl ?_ | refine WC.ret ?_)
                  refine WL.ix1 rfl rfl rfl rfl rfl rfl rfl hax ?_
                  refine WL.load rfl rfl rfl rfl rfl hcx ?_
                  repeat (first | refine WC.seq ?_ | refine WC.reg ?_ | refine WL.pure rfl rfl rfl ?_ | refine WL.nil ?_ | refine WC.skip ?_ | refine WC.block ?_ | refine WC.condT rfl ?_ | refine WC.condF rfl ?_ | refine WL.off rfl rfl rfl ?_ | refine WL.off0 rfl rfl ?_ | refine WC.exit ?_ | refine blk_hit ?_ | refine blk_miss rfl ?_ | refine WC.ret ?_)
                  refine WL.ix1 rfl rfl rfl rfl rfl rfl rfl hk ?_
                  refine WL.store rfl rfl rfl rfl rfl rfl (hp11.obj 0 rfl) (by rw [List.size_toArray, bl_len]; omega) (fun w12 h12 => ?_)
                  rw [Nat.zero_add, bl_set] at h12
                  have hp12 := hp11.set 0 rfl rfl h12
                  repeat (first | refine WC.seq ?_ | refine WC.reg ?_ | refine WL.pure rfl rfl rfl ?_ | refine WL.nil ?_ | refine WC.skip ?_ | refine WC.block ?_ | refine WC.condT rfl ?_ | refine WC.condF rfl ?_ | refine WL.off rfl rfl rfl ?_ | refine WL.off0 rfl rfl ?_ | refine WC.exit ?_ | refine blk_hit ?_ | refine blk_miss rfl ?_ | refine WC.ret ?_)
                  refine ⟨(), ⟨rfl, rfl, rfl, rfl, rfl, rfl, rfl, rfl, rfl, rfl, rfl⟩, ?_⟩
                  rw [show gR wUntil bs[a].2 bs[b].2 ms lp k xv = xv from (show (bs[b].2.getD k false || (bs[a].2.getD k false && xv)) = xv by rw [← hav, ← hbv]; rfl)]
                  exact hp12
              · repeat (first | refine WC.seq ?_ | refine WC.reg ?_ | refine WL.pure rfl rfl rfl ?_ | refine WL.nil ?_ | refine WC.skip ?_ | refine WC.block ?_ | refine WC.condT rfl ?_ | refine WC.condF rfl ?_ | refine WL.off rfl rfl rfl ?_ | refine WL.off0 rfl rfl ?_ | refine WC.exit ?_ | refine blk_hit ?_ | refine blk_miss rfl ?_ | refine WC.ret ?_)
                refine WL.ix1 rfl rfl rfl rfl rfl rfl rfl hk ?_
                refine WL.store rfl rfl rfl rfl rfl rfl (hp11.obj 0 rfl) (by rw [List.size_toArray, bl_len]; omega) (fun w12 h12 => ?_)
                rw [Nat.zero_add, bl_set] at h12
                have hp12 := hp11.set 0 rfl rfl h12
                repeat (first | refine WC.seq ?_ | refine WC.reg ?_ | refine WL.pure rfl rfl rfl ?_ | refine WL.nil ?_ | refine WC.skip ?_ | refine WC.block ?_ | refine WC.condT rfl ?_ | refine WC.condF rfl ?_ | refine WL.off rfl rfl rfl ?_ | refine WL.off0 rfl rfl ?_ | refine WC.exit ?_ | refine blk_hit ?_ | refine blk_miss rfl ?_ | refine WC.ret ?_)
                refine ⟨(), ⟨rfl, rfl, rfl, rfl, rfl, rfl, rfl, rfl, rfl, rfl, rfl⟩, ?_⟩
                rw [show gR wUntil bs[a].2 bs[b].2 ms lp k xv = true from (show (bs[b].2.getD k false || (bs[a].2.getD k false && xv)) = true by rw [← hbv]; rfl)]
                exact hp12
            · refine WL.sCmp (a := wRelease) (b := wTrue) rfl rfl rfl rfl rfl ?_
              repeat (first | refine WC.seq ?_ | refine WC.reg ?_ | refine WL.pure rfl rfl rfl ?_ | refine WL.nil ?_ | refine WC.skip ?_ | refine WC.block ?_ | refine WC.condT rfl ?_ | refine WC.condF rfl ?_ | refine WL.off rfl rfl rfl ?_ | refine WL.off0 rfl rfl ?_ | refine WC.exit ?_ | refine blk_hit ?_ | refine blk_miss rfl ?_ | refine WC.ret ?_)
              refine WL.sCmp (a := wRelease) (b := wFalse) rfl rfl rfl rfl rfl ?_
              repeat (first | refine WC.seq ?_ | refine WC.reg ?_ | refine WL.pure rfl rfl rfl ?_ | refine WL.nil ?_ | refine WC.skip ?_ | refine WC.block ?_ | refine WC.condT rfl ?_ | refine WC.condF rfl ?_ | refine WL.off rfl rfl rfl ?_ | refine WL.off0 rfl rfl ?_ | refine WC.exit ?_ | refine blk_hit ?_ | refine blk_miss rfl ?_ | refine WC.ret ?_)
              refine WL.sCmp (a := wRelease) (b := wNot) rfl rfl rfl rfl rfl ?_
              repeat (first | refine WC.seq ?_ | refine WC.reg ?_ | refine WL.pure rfl rfl rfl ?_ | refine WL.nil ?_ | refine WC.skip ?_ | refine WC.block ?_ | refine WC.condT rfl ?_ | refine WC.condF rfl ?_ | refine WL.off rfl rfl rfl ?_ | refine WL.off0 rfl rfl ?_ | refine WC.exit ?_ | refine blk_hit ?_ | refine blk_miss rfl ?_ | refine WC.ret ?_)
              refine WL.sCmp (a := wRelease) (b := wAnd) rfl rfl rfl rfl rfl ?_
              repeat (first | refine WC.seq ?_ | refine WC.reg ?_ | refine WL.pure rfl rfl rfl ?_ | refine WL.nil ?_ | refine WC.skip ?_ | refine WC.block ?_ | refine WC.condT rfl ?_ | refine WC.condF rfl ?_ | refine WL.off rfl rfl rfl ?_ | refine WL.off0 rfl rfl ?_ | refine WC.exit ?_ | refine blk_hit ?_ | refine blk_miss rfl ?_ | refine WC.ret ?_)
              refine WL.sCmp (a := wRelease) (b := wOr) rfl rfl rfl rfl rfl ?_
              repeat (first | refine WC.seq ?_ | refine WC.reg ?_ | refine WL.pure rfl rfl rfl ?_ | refine WL.nil ?_ | refine WC.skip ?_ | refine WC.block ?_ | refine WC.condT rfl ?_ | refine WC.condF rfl ?_ | refine WL.off rfl rfl rfl ?_ | refine WL.off0 rfl rfl ?_ | refine WC.exit ?_ | refine blk_hit ?_ | refine blk_miss rfl ?_ | refine WC.ret ?_)
              refine WL.sCmp (a := wRelease) (b := wNext) rfl rfl rfl rfl rfl ?_
              repeat (first | refine WC.seq ?_ | refine WC.reg ?_ | refine WL.pure rfl rfl rfl ?_ | refine WL.nil ?_ | refine WC.skip ?_ | refine WC.block ?_ | refine WC.condT rfl ?_ | refine WC.condF rfl ?_ | refine WL.off rfl rfl rfl ?_ | refine WL.off0 rfl rfl ?_ | refine WC.exit ?_ | refine blk_hit ?_ | refine blk_miss rfl ?_ | refine WC.ret ?_)
              refine WL.sCmp (a := wRelease) (b := wUntil) rfl rfl rfl rfl rfl ?_
              repeat (first | refine WC.seq ?_ | refine WC.reg ?_ | refine WL.pure rfl rfl rfl ?_ | refine WL.nil ?_ | refine WC.skip ?_ | refine WC.block ?_ | refine WC.condT rfl ?_ | refine WC.condF rfl ?_ | refine WL.off rfl rfl rfl ?_ | refine WL.off0 rfl rfl ?_ | refine WC.exit ?_ | refine blk_hit ?_ | refine blk_miss rfl ?_ | refine WC.ret ?_)
              refine WL.sCmp (a := wRelease) (b := wRelease) rfl rfl rfl rfl rfl ?_
              repeat (first | refine WC.seq ?_ | refine WC.reg ?_ | refine WL.pure rfl rfl rfl ?_ | refine WL.nil ?_ | refine WC.skip ?_ | refine WC.block ?_ | refine WC.condT rfl ?_ | refine WC.condF rfl ?_ | refine WL.off rfl rfl rfl ?_ | refine WL.off0 rfl rfl ?_ | refine WC.exit ?_ | refine blk_hit ?_ | refine blk_miss rfl ?_ | refine WC.ret ?_)
              cases bv
              · repeat (first | refine WC.seq ?_ | refine WC.reg ?_ | refine WL.pure rfl rfl rfl ?_ | refine WL.nil ?_ | refine WC.skip ?_ | refine WC.block ?_ | refine WC.condT rfl ?_ | refine WC.condF rfl ?_ | refine WL.off rfl rfl rfl ?_ | refine WL.off0 rfl rfl ?_ | refine WC.exit ?_ | refine blk_hit ?_ | refine blk_miss rfl ?_ | refine WC.ret ?_)
                refine WL.ix1 rfl rfl rfl rfl rfl rfl rfl hk ?_
                refine WL.store rfl rfl rfl rfl rfl rfl (hp11.obj 0 rfl) (by rw [List.size_toArray, bl_len]; omega) (fun w12 h12 => ?_)
                rw [Nat.zero_add, bl_set] at h12
                have hp12 := hp11.set 0 rfl rfl h12
                repeat (first | refine WC.seq ?_ | refine WC.reg ?_ | refine WL.pure rfl rfl rfl ?_ | refine WL.nil ?_ | refine WC.skip ?_ | refine WC.block ?_ | refine WC.condT rfl ?_ | refine WC.condF rfl ?_ | refine WL.off rfl rfl rfl ?_ | refine WL.off0 rfl rfl ?_ | refine WC.exit ?_ | refine blk_hit ?_ | refine blk_miss rfl ?_ | refine WC.ret ?_)
                refine ⟨(), ⟨rfl, rfl, rfl, rfl, rfl, rfl, rfl, rfl, rfl, rfl, rfl⟩, ?_⟩
                rw [show gR wRelease bs[a].2 bs[b].2 ms lp k xv = false from (show (bs[b].2.getD k false && (bs[a].2.getD k false || xv)) = false by rw [← hbv]; rfl)]
                exact hp12
              · cases av
                · repeat (first | refine WC.seq ?_ | refine WC.reg ?_ | refine WL.pure rfl rfl rfl ?_ | refine WL.nil ?_ | refine WC.skip ?_ | refine WC.block ?_ | refine WC.condT rfl ?_ | refine WC.condF rfl ?_ | refine WL.off rfl rfl rfl ?_ | refine WL.off0 rfl rfl ?_ | refine WC.exit ?_ | refine blk_hit ?_ | refine blk_miss rfl ?_ | refine WC.ret ?_)
                  refine WL.ix1 rfl rfl rfl rfl rfl rfl rfl hax ?_
                  refine WL.load rfl rfl rfl rfl rfl hcx ?_
                  repeat (first | refine WC.seq ?_ | refine WC.reg ?_ | refine WL.pure rfl rfl rfl ?_ | refine WL.nil ?_ | refine WC.skip ?_ | refine WC.block ?_ | refine WC.condT rfl ?_ | refine WC.condF rfl ?_ | refine WL.off rfl rfl rfl ?_ | refine WL.off0 rfl rfl ?_ | refine WC.exit ?_ | refine blk_hit ?_ | refine blk_miss rfl ?_ | refine WC.ret ?_)
                  refine WL.ix1 rfl rfl rfl rfl rfl rfl rfl hk ?_
                  refine WL.store rfl rfl rfl rfl rfl rfl (hp11.obj 0 rfl) (by rw [List.size_toArray, bl_len]; omega) (fun w12 h12 => ?_)
                  rw [Nat.zero_add, bl_set] at h12
                  have hp12 := hp11.set 0 rfl rfl h12
                  repeat (first | refine WC.seq ?_ | refine WC.reg ?_ | refine WL.pure rfl rfl rfl ?_ | refine WL.nil ?_ | refine WC.skip ?_ | refine WC.block ?_ | refine WC.condT rfl ?_ | refine WC.condF rfl ?_ | refine WL.off rfl rfl rfl ?_ | refine WL.off0 rfl rfl ?_ | refine WC.exit ?_ | refine blk_hit ?_ | refine blk_miss rfl ?_ | refine WC.ret ?_)
                  refine ⟨(), ⟨rfl, rfl, rfl, rfl, rfl, rfl, rfl, rfl, rfl, rfl, rfl⟩, ?_⟩
                  rw [show gR wRelease bs[a].2 bs[b].2 ms lp k xv = xv from (show (bs[b].2.getD k false && (bs[a].2.getD k false || xv)) = xv by rw [← hav, ← hbv]; rfl)]
                  exact hp12
                · repeat (first | refine WC.seq ?_ | refine WC.reg ?_ | refine WL.pure rfl rfl rfl ?_ | refine WL.nil ?_ | refine WC.skip ?_ | refine WC.block ?_ | refine WC.condT rfl ?_ | refine WC.condF rfl ?_ | refine WL.off rfl rfl rfl ?_ | refine WL.off0 rfl rfl ?_ | refine WC.exit ?_ | refine blk_hit ?_ | refine blk_miss rfl ?_ | refine WC.ret ?_)
                  refine WL.ix1 rfl rfl rfl rfl rfl rfl rfl hk ?_
                  refine WL.store rfl rfl rfl rfl rfl rfl (hp11.obj 0 rfl) (by rw [List.size_toArray, bl_len]; omega) (fun w12 h12 => ?_)
                  rw [Nat.zero_add, bl_set] at h12
                  have hp12 := hp11.set 0 rfl rfl h12
                  repeat (first | refine WC.seq ?_ | refine WC.reg ?_ | refine WL.pure rfl rfl rfl ?_ | refine WL.nil ?_ | refine WC.skip ?_ | refine WC.block ?_ | refine WC.condT rfl ?_ | refine WC.condF rfl ?_ | refine WL.off rfl rfl rfl ?_ | refine WL.off0 rfl rfl ?_ | refine WC.exit ?_ | refine blk_hit ?_ | refine blk_miss rfl ?_ | refine WC.ret ?_)
                  refine ⟨(), ⟨rfl, rfl, rfl, rfl, rfl, rfl, rfl, rfl, rfl, rfl, rfl⟩, ?_⟩
                  rw [show gR wRelease bs[a].2 bs[b].2 ms lp k xv = true from (show (bs[b].2.getD k false && (bs[a].2.getD k false || xv)) = true by rw [← hav, ← hbv]; rfl)]
                  exact hp12
        rintro _ e11 w11 hsub hp11
        refine WC.sub hsub ?_
        clear hsub e11 hp10
        repeat (first | refine WC.seq ?_ | refine WC.reg ?_ | refine WL.pure rfl rfl rfl ?_ | refine WL.nil ?_ | refine WC.skip ?_ | refine WC.block ?_ | refine WC.condT rfl ?_ | refine WC.condF rfl ?_ | refine WL.off rfl rfl rfl ?_ | refine WL.off0 rfl rfl ?_ | refine WC.exit ?_ | refine blk_hit ?_ | refine blk_miss rfl ?_ | refine WC.ret ?_)
        exact ⟨(k, _), (by show k < k + 1; omega), ⟨rfl, rfl, rfl, rfl, rfl, rfl, rfl, rfl, rfl, congrArg (fun z => some (Value.int .i64 z)) e3, rfl⟩, (by show k ≤ ms.length; omega), (by rw [List.length_set]; exact hcl), (by rw [← hps]; rfl), hp11⟩
      have hj0 : j = 0 := by have := of_decide_eq_false g4; omega
      subst hj0
      have hps : c = itR s Av Bv ms lp (p + 1) := hps
      repeat (first | refine WC.seq ?_ | refine WC.reg ?_ | refine WL.pure rfl rfl rfl ?_ | refine WL.nil ?_ | refine WC.skip ?_ | refine WC.block ?_ | refine WC.condT rfl ?_ | refine WC.condF rfl ?_ | refine WL.off rfl rfl rfl ?_ | refine WL.off0 rfl rfl ?_ | refine WC.exit ?_ | refine blk_hit ?_ | refine blk_miss rfl ?_ | refine WC.ret ?_)
      exact ⟨p + 1, (by omega), ⟨rfl, rfl, rfl, rfl, rfl, rfl, rfl, rfl, congrArg (fun z => some (Value.int .i64 z)) stepp, rfl⟩, hpl, hps ▸ hp10⟩
    have hpl : p = 2 := by have := of_decide_eq_false g3; omega
    subst hpl
    have hp9 : Hp w2 w9 (Lb ob (nodeR s Av Bv ms lp) :: Ndb b1 s A B :: Rbv ms.length (.slice aa bs.length ac) bs :: bvE bs) := hp9
    repeat (first | refine WC.seq ?_ | refine WC.reg ?_ | refine WL.pure rfl rfl rfl ?_ | refine WL.nil ?_ | refine WC.skip ?_ | refine WC.block ?_ | refine WC.condT rfl ?_ | refine WC.condF rfl ?_ | refine WL.off rfl rfl rfl ?_ | refine WL.off0 rfl rfl ?_ | refine WC.exit ?_ | refine blk_hit ?_ | refine blk_miss rfl ?_ | refine WC.ret ?_)
    refine WL.buildS (cs := [.slice (some ⟨ob, 0, none⟩) ms.length ms.length]) rfl rfl rfl rfl rfl rfl rfl rfl rfl (fun b12 w12 h12 => ?_)
    have hp12 := hp9.new h12
    refine WL.append 3 hp12 rfl rfl rfl rfl rfl (by decide) rfl rfl rfl (news := [.slice (some ⟨ob, 0, none⟩) ms.length ms.length]) (Sl.of_obj (hp12.obj 0 rfl) (fun q u hq => by simpa using hq)) rfl (Cells.cons rfl Cells.nil) (by unfold maxLen; omega) (by show (bs.length + 1) * 24 ≤ _; omega) ?_
    intro pb pd w13 hp13 _
    replace hp13 : Hp w2 w13 (_ :: Lb ob (nodeR s Av Bv ms lp) :: _ :: .row 90 1 (.slice pb (bs.length + 1) pd) (bs.length + 1) (bvV ms.length bs ++ [.slice (some ⟨ob, 0, none⟩) ms.length ms.length]) :: bvE bs) := hp13
    have hp14 : Hp w2 w13 (Rbv ms.length (.slice pb (bs ++ [(ob, nodeR s Av Bv ms lp)]).length pd) (bs ++ [(ob, nodeR s Av Bv ms lp)]) :: bvE (bs ++ [(ob, nodeR s Av Bv ms lp)])) := by
      have h : Hp w2 w13 (.row 90 1 (.slice pb (bs.length + 1) pd) (bs.length + 1) (bvV ms.length bs ++ [.slice (some ⟨ob, 0, none⟩) ms.length ms.length]) :: Lb ob (nodeR s Av Bv ms lp) :: bvE bs) := (Hp.swap (hp13.tail.swap.tail)) 
      unfold Rbv
      rw [List.length_append, show bvV ms.length (bs ++ [(ob, nodeR s Av Bv ms lp)]) = bvV ms.length bs ++ [.slice (some ⟨ob, 0, none⟩) ms.length ms.length] from by unfold bvV; rw [List.map_append]; rfl, show bvE (bs ++ [(ob, nodeR s Av Bv ms lp)]) = bvE bs ++ [Lb ob (nodeR s Av Bv ms lp)] from by unfold bvE; rw [List.map_append]; rfl]
      exact permHp h (List.Perm.cons _ (List.perm_append_comm (l₁ := [_]) (l₂ := bvE bs)))
    repeat (first | refine WC.seq ?_ | refine WC.reg ?_ | refine WL.pure rfl rfl rfl ?_ | refine WL.nil ?_ | refine WC.skip ?_ | refine WC.block ?_ | refine WC.condT rfl ?_ | refine WC.condF rfl ?_ | refine WL.off rfl rfl rfl ?_ | refine WL.off0 rfl rfl ?_ | refine WC.exit ?_ | refine blk_hit ?_ | refine blk_miss rfl ?_ | refine WC.ret ?_)
    exact ⟨(pb, pd, bs ++ [(ob, nodeR s Av Bv ms lp)]), (by show l.length - (bs ++ [_]).length < l.length - bs.length; rw [List.length_append]; show l.length - (bs.length + 1) < _; omega), ⟨rfl, rfl, rfl, rfl, congrArg (fun z => some (Value.slice pb z pd)) (by rw [List.length_append]; rfl), congrArg (fun z => some (Value.int .i64 z)) (by rw [List.length_append]; exact step), rfl⟩, hp14, (by rw [List.length_append]; exact hi), InvB_snoc hlp hInv hx hK ob⟩
  have hi : bs.length = l.length := by have := of_decide_eq_false g1; omega
  have e1 : IntKind.i64.wrap (((l.length : Nat) : Int) - 1) = ((sizeF f - 1 : Nat) : Int) := by rw [wrap_mid (by omega) (by omega)]; omega
  have hb : sizeF f - 1 < bs.length := by omega
  obtain ⟨k1, k2⟩ := hInv (sizeF f - 1) bs[sizeF f - 1] (List.getElem?_eq_getElem hb)
  have k3 := k2 f hwf hat
  repeat (first | refine WC.seq ?_ | refine WC.reg ?_ | refine WL.pure rfl rfl rfl ?_ | refine WL.nil ?_ | refine WC.skip ?_ | refine WC.block ?_ | refine WC.condT rfl ?_ | refine WC.condF rfl ?_ | refine WL.off rfl rfl rfl ?_ | refine WL.off0 rfl rfl ?_ | refine WC.exit ?_ | refine blk_hit ?_ | refine blk_miss rfl ?_ | refine WC.ret ?_)
  refine WL.known (d := 220) (congrArg (fun z => some (Value.int .i64 z)) e1) ?_
  refine WL.ixload (j := sizeF f - 1) rfl (fun _ => rfl) rfl rfl rfl rfl rfl rfl rfl hb rfl rfl (Sl.of_row (hp3.at 0 rfl)) (bvV_at hb) ?_
  intro q9
  refine WL.ix1 (j := 0) rfl rfl rfl rfl rfl rfl rfl (by omega) ?_
  refine WL.load rfl rfl rfl rfl rfl (cell_of_obj (hp3.obj (sizeF f - 1 + 1) (show nth (bvE bs) (sizeF f - 1) = some (Lb bs[sizeF f - 1].1 bs[sizeF f - 1].2) from bvE_at hb)) (by rw [List.getElem?_toArray]; exact bl_at (by omega))) ?_
  repeat (first | refine WC.seq ?_ | refine WC.reg ?_ | refine WL.pure rfl rfl rfl ?_ | refine WL.nil ?_ | refine WC.skip ?_ | refine WC.block ?_ | refine WC.condT rfl ?_ | refine WC.condF rfl ?_ | refine WL.off rfl rfl rfl ?_ | refine WL.off0 rfl rfl ?_ | refine WC.exit ?_ | refine blk_hit ?_ | refine blk_miss rfl ?_ | refine WC.ret ?_)
  exact Res.one rfl rfl rfl ⟨by rw [k3], (hp2n.comb hp3).nil'⟩
end Go.Proofs.YtpbbneclkhfgoaaDoor
