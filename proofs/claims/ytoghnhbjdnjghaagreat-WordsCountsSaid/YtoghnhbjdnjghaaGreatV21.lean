/- The walk of Size. -/
import Derived.Test.YtoghnhbjdnjghaaGreatV20
import Derived.Scope
namespace Go.W
section
variable {P : Program} {ro : Option Nat} {n : Nat} {N R : Nor} {X : Ext} {Z : Pan} {e : Env} {w : World}
theorem WC.scope {c : Code} (h : WC P none n c N R X Z e w) : WC P none n (.scope c) N R X Z e w := by
  intro a ha
  refine wpIn_wide.2 (wp_scope_straight (wpIn_wide.1 (wpIn_mono (h a ha) ?_)))
  intro ex a' w' hq
  cases ex with
  | goto l => exact hq
  | _ => exact hq
theorem WC.label {l : Nat} (h : N e w) : WC P ro n (.label l) N R X Z e w := fun a ha => wpIn_label ⟨e, ha, h⟩
end
end Go.W
namespace Go.Words
open Go.W
def finN (now : List Int) (all : Int) : Option Int := match totM now with
  | some r => if 0 < r then none else some all
  | none => none
def sizN (tab : List (List Int)) : Nat → List Int → Int → Option Int
  | 0, now, all => finN now all
  | k + 1, now, all => match totM now with
    | none => none
    | some sum => if 4611686018427387904 - all < sum then none else if sum = 0 then finN now all else match spM tab now with
      | none => none
      | some nw => sizN tab k nw (all + sum)
def iniM (m : Nat) : List Int := (List.replicate m 0).set 0 1
def sizeM (l : List Rl) (k : Nat) : Option Int := sizN (tabM l k) (tabM l k).length (iniM (tabM l k).length) 0
def SizeV (l : List Rl) (k : Int) : Value := if cntB l k then match sizeM l k.toNat with
    | some z => .tuple #[.int .i64 z, .int .i64 0]
    | none => .tuple #[.int .i64 0, .int .i64 6]
  else .tuple #[.int .i64 0, .int .i64 2]
theorem spO_inv : ∀ (now : List Int) (tab : List (List Int)) (out o : List Int) (m : Nat), spO now tab out = some o → Cnt now → Cnt out → out.length = m → Tb m tab → Cnt o ∧ o.length = m := by
  intro now
  induction now with
  | nil => intro tab out o m h _ h2 h3 _; rw [spO] at h; obtain rfl := Option.some.inj h; exact ⟨h2, h3⟩
  | cons n now ih =>
    intro tab out o m h h1 h2 h3 h4
    cases tab with
    | nil => rw [spO] at h; obtain rfl := Option.some.inj h; exact ⟨h2, h3⟩
    | cons row tab =>
      rw [spO] at h
      cases hs : spI n row out with
      | none => rw [hs] at h; cases h
      | some q =>
        rw [hs] at h
        have hn := h1 n (by simp)
        have hr := (h4 row (by simp)).2
        obtain ⟨k1, k2⟩ := spI_inv hn.1 row out q hs h2 (fun t ht => by rw [h3]; exact hr t ht)
        exact ih tab q o m h (fun n hn => h1 n (by simp [hn])) k1 (by rw [k2, h3]) (fun r hr => h4 r (by simp [hr]))
theorem spM_inv {tab : List (List Int)} {now o : List Int} (h : spM tab now = some o) (hc : Cnt now) (hT : Tb now.length tab) : Cnt o ∧ o.length = now.length :=
  spO_inv now tab _ o now.length h hc (fun n hn => by rw [List.eq_of_mem_replicate hn]; decide) List.length_replicate hT
theorem iniM_cnt (m : Nat) : Cnt (iniM m) := Cnt.set (fun n hn => by rw [List.eq_of_mem_replicate hn]; decide) 0 (by decide) (by decide)
theorem iniM_len (m : Nat) : (iniM m).length = m := by unfold iniM; rw [List.length_set, List.length_replicate]
theorem totN_inv : ∀ (l : List Int) (s r : Int), totN s l = some r → 0 ≤ s → s ≤ 4611686018427387904 → Cnt l → 0 ≤ r ∧ r ≤ 4611686018427387904 := by
  intro l
  induction l with
  | nil => intro s r h h0 h1 _; rw [totN] at h; obtain rfl := Option.some.inj h; exact ⟨h0, h1⟩
  | cons n l ih =>
    intro s r h h0 h1 hc
    rw [totN] at h
    split at h
    · cases h
    · have hn := hc n (by simp)
      exact ih _ r h (by omega) (by omega) (fun n hn => hc n (by simp [hn]))
theorem totM_inv {l : List Int} {r : Int} (h : totM l = some r) (hc : Cnt l) : 0 ≤ r ∧ r ≤ 4611686018427387904 := totN_inv l 0 r h (Int.le_refl _) (by decide) hc
end Go.Words
namespace Go.Proofs.YtoghnhbjdnjghaaGreat
open Go.W Go.Words Go.RowKit
set_option maxRecDepth 100000
attribute [local irreducible] WC WL WQ WS WH

theorem cntB_of {l : List Rl} {k : Int} (h : cntB l k = true) : sysB l = true ∧ ∃ n : Nat, k = (n : Int) ∧ 1 ≤ n ∧ n ≤ 8 := by
  unfold cntB at h
  obtain ⟨h, h3⟩ := Bool.and_eq_true_iff.1 h
  obtain ⟨h1, h2⟩ := Bool.and_eq_true_iff.1 h
  have h2 := of_decide_eq_true h2
  have h3 := of_decide_eq_true h3
  exact ⟨h1, k.toNat, by omega, by omega, by omega⟩
theorem tabM_len (l : List Rl) (k : Nat) : (tabM l k).length = (prefM l).length := by unfold tabM; rw [List.length_map]
set_option maxHeartbeats 1000000 in
theorem Size_any (a : Option Addr) (cap : Nat) (l : List Rl) (k : Int) (hm : Sm 9223372036854775807 l) (w : World) (hs : Sl w a (rcs l)) :
    Ret Tryz.prog 30 [.slice a l.length cap, .int .i64 k] w fun u w' => u = SizeV l k ∧ Hp w w' [] := by
  refine enter Tryz.func30 rfl rfl ⟨rfl, rfl⟩ rfl ?_
  repeat (first | refine WC.seq ?_ | refine WC.reg ?_ | refine WL.pure rfl rfl rfl ?_ | refine WL.nil ?_ | refine WC.skip ?_ | refine WC.block ?_ | refine WC.condT rfl ?_ | refine WC.condF rfl ?_ | refine WL.off rfl rfl rfl ?_ | refine WL.off0 rfl rfl ?_ | refine WC.exit ?_ | refine blk_hit ?_ | refine blk_miss rfl ?_ | refine WC.ret ?_)
  try refine WC.scope ?_
  repeat (first | refine WC.seq ?_ | refine WC.reg ?_ | refine WL.pure rfl rfl rfl ?_ | refine WL.nil ?_ | refine WC.skip ?_ | refine WC.block ?_ | refine WC.condT rfl ?_ | refine WC.condF rfl ?_ | refine WL.off rfl rfl rfl ?_ | refine WL.off0 rfl rfl ?_ | refine WC.exit ?_ | refine blk_hit ?_ | refine blk_miss rfl ?_ | refine WC.ret ?_)
  refine WL.call rfl rfl rfl rfl rfl ent53 (isCounted_any a cap l k hm w hs) ?_
  rintro _ w1 ⟨rfl, hp1⟩
  unfold SizeV
  repeat (first | refine WC.seq ?_ | refine WC.reg ?_ | refine WL.pure rfl rfl rfl ?_ | refine WL.nil ?_ | refine WC.skip ?_ | refine WC.block ?_ | refine WC.condT rfl ?_ | refine WC.condF rfl ?_ | refine WL.off rfl rfl rfl ?_ | refine WL.off0 rfl rfl ?_ | refine WC.exit ?_ | refine blk_hit ?_ | refine blk_miss rfl ?_ | refine WC.ret ?_)
  refine WC.cond rfl (fun h1 => ?_) (fun h1 => ?_)
  · have h1 : cntB l k = false := by simpa using h1
    repeat (first | refine WC.seq ?_ | refine WC.reg ?_ | refine WL.pure rfl rfl rfl ?_ | refine WL.nil ?_ | refine WC.skip ?_ | refine WC.block ?_ | refine WC.condT rfl ?_ | refine WC.condF rfl ?_ | refine WL.off rfl rfl rfl ?_ | refine WL.off0 rfl rfl ?_ | refine WC.exit ?_ | refine blk_hit ?_ | refine blk_miss rfl ?_ | refine WC.ret ?_)
    exact Res.two rfl rfl rfl rfl ⟨by rw [h1]; rfl, hp1⟩
  · have h1 : cntB l k = true := by simpa using h1
    obtain ⟨hsys, n, rfl, hn1, hn⟩ := cntB_of h1
    have hln : l.length ≤ 64 := of_decide_eq_true (Bool.and_eq_true_iff.1 hsys).1
    have hsm : Sm 24 l := fun r hr => sys_side hsys r hr
    have hpx := prefM_pfx hsm
    have hpl := hpx.len
    have hp0 : 0 < (prefM l).length := by have := fnd_lt hpx.head; omega
    have htb := tabM_tb l hn hsm
    have htl := tabM_len l n
    rw [h1, Int.toNat_natCast, if_pos rfl]
    unfold sizeM
    repeat (first | refine WC.seq ?_ | refine WC.reg ?_ | refine WL.pure rfl rfl rfl ?_ | refine WL.nil ?_ | refine WC.skip ?_ | refine WC.block ?_ | refine WC.condT rfl ?_ | refine WC.condF rfl ?_ | refine WL.off rfl rfl rfl ?_ | refine WL.off0 rfl rfl ?_ | refine WC.exit ?_ | refine blk_hit ?_ | refine blk_miss rfl ?_ | refine WC.ret ?_)
    try refine WC.scope ?_
    repeat (first | refine WC.seq ?_ | refine WC.reg ?_ | refine WL.pure rfl rfl rfl ?_ | refine WL.nil ?_ | refine WC.skip ?_ | refine WC.block ?_ | refine WC.condT rfl ?_ | refine WC.condF rfl ?_ | refine WL.off rfl rfl rfl ?_ | refine WL.off0 rfl rfl ?_ | refine WC.exit ?_ | refine blk_hit ?_ | refine blk_miss rfl ?_ | refine WC.ret ?_)
    refine WL.call rfl rfl rfl rfl rfl ent54 (newAut_any a cap l n hn1 hn hln hsm w1 (hs.hp hp1)) ?_
    rintro _ w2 ⟨xb, R, rfl, hR, hA, hp2⟩
    have hp2 := hp1.over hp2
    have hRl : R.length = (tabM l n).length := by rw [← hR, List.length_map]
    generalize tabM l n = tab at *
    have hcl : ∀ x, Hp w2 x [] → Hp w x [] := fun x hx => hp2.over hx
    obtain ⟨na, nc, ht1, ht2⟩ := hA.top
    repeat (first | refine WC.seq ?_ | refine WC.reg ?_ | refine WL.pure rfl rfl rfl ?_ | refine WL.nil ?_ | refine WC.skip ?_ | refine WC.block ?_ | refine WC.condT rfl ?_ | refine WC.condF rfl ?_ | refine WL.off rfl rfl rfl ?_ | refine WL.off0 rfl rfl ?_ | refine WC.exit ?_ | refine blk_hit ?_ | refine blk_miss rfl ?_ | refine WC.ret ?_)
    refine WL.nilC rfl rfl rfl ?_
    repeat (first | refine WC.seq ?_ | refine WC.reg ?_ | refine WL.pure rfl rfl rfl ?_ | refine WL.nil ?_ | refine WC.skip ?_ | refine WC.block ?_ | refine WC.condT rfl ?_ | refine WC.condF rfl ?_ | refine WL.off rfl rfl rfl ?_ | refine WL.off0 rfl rfl ?_ | refine WC.exit ?_ | refine blk_hit ?_ | refine blk_miss rfl ?_ | refine WC.ret ?_)
    refine WL.loadB rfl rfl rfl rfl rfl ht1 (j := 0) rfl ?_
    repeat (first | refine WC.seq ?_ | refine WC.reg ?_ | refine WL.pure rfl rfl rfl ?_ | refine WL.nil ?_ | refine WC.skip ?_ | refine WC.block ?_ | refine WC.condT rfl ?_ | refine WC.condF rfl ?_ | refine WL.off rfl rfl rfl ?_ | refine WL.off0 rfl rfl ?_ | refine WC.exit ?_ | refine blk_hit ?_ | refine blk_miss rfl ?_ | refine WC.ret ?_)
    refine WL.make rfl rfl rfl rfl rfl rfl rfl rfl (by show 8 * R.length ≤ _; omega) (by unfold maxLen; omega) ?_
    intro nb w3 hnb
    have hp3 : Hp w2 w3 [.blk nb (.cells (zs (List.replicate R.length 0)).toArray 3 (0, 0))] := by
      have := (Hp.start w2).new hnb
      unfold zs
      rw [List.map_replicate]
      exact this
    repeat (first | refine WC.seq ?_ | refine WC.reg ?_ | refine WL.pure rfl rfl rfl ?_ | refine WL.nil ?_ | refine WC.skip ?_ | refine WC.block ?_ | refine WC.condT rfl ?_ | refine WC.condF rfl ?_ | refine WL.off rfl rfl rfl ?_ | refine WL.off0 rfl rfl ?_ | refine WC.exit ?_ | refine blk_hit ?_ | refine blk_miss rfl ?_ | refine WC.ret ?_)
    refine WL.ix rfl rfl rfl rfl rfl (j := 0) (by omega) rfl ?_
    refine WL.store rfl rfl rfl rfl rfl rfl (hp3.obj 0 rfl) (by rw [List.size_toArray, zs_len, List.length_replicate]; show 0 + 0 * 1 < _; omega) (fun w4 hw4 => ?_)
    rw [show 0 + 0 * ti3.size = 0 from rfl, zs_set] at hw4
    have hp4 : Hp w2 w4 [.blk nb (.cells (zs (iniM R.length)).toArray 3 (0, 0))] := hp3.set 0 rfl rfl hw4
    rw [← hRl]
    repeat (first | refine WC.seq ?_ | refine WC.reg ?_ | refine WL.pure rfl rfl rfl ?_ | refine WL.nil ?_ | refine WC.skip ?_ | refine WC.block ?_ | refine WC.condT rfl ?_ | refine WC.condF rfl ?_ | refine WL.off rfl rfl rfl ?_ | refine WL.off0 rfl rfl ?_ | refine WC.exit ?_ | refine blk_hit ?_ | refine blk_miss rfl ?_ | refine WC.ret ?_)
    try refine WC.scope ?_
    repeat (first | refine WC.seq ?_ | refine WC.reg ?_ | refine WL.pure rfl rfl rfl ?_ | refine WL.nil ?_ | refine WC.skip ?_ | refine WC.block ?_ | refine WC.condT rfl ?_ | refine WC.condF rfl ?_ | refine WL.off rfl rfl rfl ?_ | refine WL.off0 rfl rfl ?_ | refine WC.exit ?_ | refine blk_hit ?_ | refine blk_miss rfl ?_ | refine WC.ret ?_)
    refine WC.label ?_
    obtain ⟨na2, nc2, ht3, ht4⟩ := (hA.hp hp4).top
    repeat (first | refine WC.seq ?_ | refine WC.reg ?_ | refine WL.pure rfl rfl rfl ?_ | refine WL.nil ?_ | refine WC.skip ?_ | refine WC.block ?_ | refine WC.condT rfl ?_ | refine WC.condF rfl ?_ | refine WL.off rfl rfl rfl ?_ | refine WL.off0 rfl rfl ?_ | refine WC.exit ?_ | refine blk_hit ?_ | refine blk_miss rfl ?_ | refine WC.ret ?_)
    refine WL.nilC rfl rfl rfl ?_
    repeat (first | refine WC.seq ?_ | refine WC.reg ?_ | refine WL.pure rfl rfl rfl ?_ | refine WL.nil ?_ | refine WC.skip ?_ | refine WC.block ?_ | refine WC.condT rfl ?_ | refine WC.condF rfl ?_ | refine WL.off rfl rfl rfl ?_ | refine WL.off0 rfl rfl ?_ | refine WC.exit ?_ | refine blk_hit ?_ | refine blk_miss rfl ?_ | refine WC.ret ?_)
    refine WL.loadB rfl rfl rfl rfl rfl ht3 (j := 0) rfl ?_
    repeat (first | refine WC.seq ?_ | refine WC.reg ?_ | refine WL.pure rfl rfl rfl ?_ | refine WL.nil ?_ | refine WC.skip ?_ | refine WC.block ?_ | refine WC.condT rfl ?_ | refine WC.condF rfl ?_ | refine WL.off rfl rfl rfl ?_ | refine WL.off0 rfl rfl ?_ | refine WC.exit ?_ | refine blk_hit ?_ | refine blk_miss rfl ?_ | refine WC.ret ?_)
    refine WC.loop (Nat × Nat × List Int × Int) (fun (i, nb, now, all) => [(6, .pointer (some ⟨xb, 0, none⟩)), (7, .slice (some ⟨nb, 0, none⟩) now.length now.length), (8, .int .i64 all), (32, .int .i64 (R.length : Nat)), (33, .int .i64 (i : Nat))])
      (fun (i, nb, now, all) w' => i ≤ R.length ∧ now.length = R.length ∧ Cnt now ∧ 0 ≤ all ∧ all ≤ 4611686018427387904 ∧ sizN tab R.length (iniM R.length) 0 = sizN tab (R.length - i) now all ∧ Hp w2 w' [.blk nb (.cells (zs now).toArray 3 (0, 0))]) (fun (i, _) => R.length - i) (0, nb, iniM R.length, 0)
      ⟨rfl, congrArg (fun z : Nat => some (Value.slice (some ⟨nb, 0, none⟩) z z)) (iniM_len R.length).symm, rfl, rfl, rfl, rfl⟩ ⟨Nat.zero_le _, iniM_len _, iniM_cnt _, Int.le_refl _, by decide, rfl, hp4⟩ ?_
    clear hp4 hp3 hw4 hnb ht3 ht4 ht1 ht2
    rintro ⟨i, nb, now, all⟩ w5 ⟨hi, hnl, hcn, ha0, ha1, hS, hp5⟩
    repeat (first | refine WC.seq ?_ | refine WC.reg ?_ | refine WL.pure rfl rfl rfl ?_ | refine WL.nil ?_ | refine WC.skip ?_ | refine WC.block ?_ | refine WC.condT rfl ?_ | refine WC.condF rfl ?_ | refine WL.off rfl rfl rfl ?_ | refine WL.off0 rfl rfl ?_ | refine WC.exit ?_ | refine blk_hit ?_ | refine blk_miss rfl ?_ | refine WC.ret ?_)
    refine WC.cond rfl (fun hc => ?_) (fun hc => ?_)
    · have hi : i < R.length := by have := of_decide_eq_true hc; omega
      have step := wrap_succ hi (by omega)
      obtain ⟨q, hq⟩ : ∃ q, R.length - i = q + 1 := ⟨R.length - i - 1, by omega⟩
      have hq2 : R.length - (i + 1) = q := by omega
      have e1 : IntKind.i64.wrap (4611686018427387904 - all) = 4611686018427387904 - all := wrap_i64_in (by omega) (by omega)
      rw [hq, sizN] at hS
      repeat (first | refine WC.seq ?_ | refine WC.reg ?_ | refine WL.pure rfl rfl rfl ?_ | refine WL.nil ?_ | refine WC.skip ?_ | refine WC.block ?_ | refine WC.condT rfl ?_ | refine WC.condF rfl ?_ | refine WL.off rfl rfl rfl ?_ | refine WL.off0 rfl rfl ?_ | refine WC.exit ?_ | refine blk_hit ?_ | refine blk_miss rfl ?_ | refine WC.ret ?_)
      refine WL.call rfl rfl rfl rfl rfl ent55 (total_any _ _ now (by omega) hcn w5 (Sl.of_obj (hp5.obj 0 rfl) (fun j u hu => by simpa using hu))) ?_
      rintro _ w6 ⟨rfl, hw6⟩
      obtain rfl := hw6.symm
      cases hf : totM now with
      | none =>
        rw [hf] at hS
        unfold totV
        repeat (first | refine WC.seq ?_ | refine WC.reg ?_ | refine WL.pure rfl rfl rfl ?_ | refine WL.nil ?_ | refine WC.skip ?_ | refine WC.block ?_ | refine WC.condT rfl ?_ | refine WC.condF rfl ?_ | refine WL.off rfl rfl rfl ?_ | refine WL.off0 rfl rfl ?_ | refine WC.exit ?_ | refine blk_hit ?_ | refine blk_miss rfl ?_ | refine WC.ret ?_)
        exact Res.two rfl rfl rfl rfl ⟨by rw [hS], hcl _ hp5.nil'⟩
      | some sum =>
        rw [hf] at hS
        have hsum := totM_inv hf hcn
        simp only at hS
        unfold totV
        repeat (first | refine WC.seq ?_ | refine WC.reg ?_ | refine WL.pure rfl rfl rfl ?_ | refine WL.nil ?_ | refine WC.skip ?_ | refine WC.block ?_ | refine WC.condT rfl ?_ | refine WC.condF rfl ?_ | refine WL.off rfl rfl rfl ?_ | refine WL.off0 rfl rfl ?_ | refine WC.exit ?_ | refine blk_hit ?_ | refine blk_miss rfl ?_ | refine WC.ret ?_)
        refine WC.cond rfl (fun h2 => ?_) (fun h2 => ?_)
        · have h2 : 4611686018427387904 - all < sum := by have := of_decide_eq_true h2; rw [e1] at this; exact this
          rw [if_pos h2] at hS
          repeat (first | refine WC.seq ?_ | refine WC.reg ?_ | refine WL.pure rfl rfl rfl ?_ | refine WL.nil ?_ | refine WC.skip ?_ | refine WC.block ?_ | refine WC.condT rfl ?_ | refine WC.condF rfl ?_ | refine WL.off rfl rfl rfl ?_ | refine WL.off0 rfl rfl ?_ | refine WC.exit ?_ | refine blk_hit ?_ | refine blk_miss rfl ?_ | refine WC.ret ?_)
          exact Res.two rfl rfl rfl rfl ⟨by rw [hS], hcl _ hp5.nil'⟩
        · have h2 : ¬ 4611686018427387904 - all < sum := by have := of_decide_eq_false h2; rw [e1] at this; exact this
          rw [if_neg h2] at hS
          repeat (first | refine WC.seq ?_ | refine WC.reg ?_ | refine WL.pure rfl rfl rfl ?_ | refine WL.nil ?_ | refine WC.skip ?_ | refine WC.block ?_ | refine WC.condT rfl ?_ | refine WC.condF rfl ?_ | refine WL.off rfl rfl rfl ?_ | refine WL.off0 rfl rfl ?_ | refine WC.exit ?_ | refine blk_hit ?_ | refine blk_miss rfl ?_ | refine WC.ret ?_)
          refine WC.cond rfl (fun h3 => ?_) (fun h3 => ?_)
          · have h3 : sum = 0 := eq_of_beq h3
            rw [if_pos h3] at hS
            repeat (first | refine WC.seq ?_ | refine WC.reg ?_ | refine WL.pure rfl rfl rfl ?_ | refine WL.nil ?_ | refine WC.skip ?_ | refine WC.block ?_ | refine WC.condT rfl ?_ | refine WC.condF rfl ?_ | refine WL.off rfl rfl rfl ?_ | refine WL.off0 rfl rfl ?_ | refine WC.exit ?_ | refine blk_hit ?_ | refine blk_miss rfl ?_ | refine WC.ret ?_)
            refine WL.call rfl rfl rfl rfl rfl ent55 (total_any _ _ now (by omega) hcn w5 (Sl.of_obj (hp5.obj 0 rfl) (fun j u hu => by simpa using hu))) ?_
            rintro _ w6 ⟨rfl, hw6⟩
            obtain rfl := hw6.symm
            cases hf : totM now with
            | none =>
              have hz : sizN tab R.length (iniM R.length) 0 = none := by rw [hS]; unfold finN; rw [hf]
              unfold totV
              repeat (first | refine WC.seq ?_ | refine WC.reg ?_ | refine WL.pure rfl rfl rfl ?_ | refine WL.nil ?_ | refine WC.skip ?_ | refine WC.block ?_ | refine WC.condT rfl ?_ | refine WC.condF rfl ?_ | refine WL.off rfl rfl rfl ?_ | refine WL.off0 rfl rfl ?_ | refine WC.exit ?_ | refine blk_hit ?_ | refine blk_miss rfl ?_ | refine WC.ret ?_)
              exact Res.two rfl rfl rfl rfl ⟨by rw [hz], hcl _ hp5.nil'⟩
            | some r =>
              unfold totV
              repeat (first | refine WC.seq ?_ | refine WC.reg ?_ | refine WL.pure rfl rfl rfl ?_ | refine WL.nil ?_ | refine WC.skip ?_ | refine WC.block ?_ | refine WC.condT rfl ?_ | refine WC.condF rfl ?_ | refine WL.off rfl rfl rfl ?_ | refine WL.off0 rfl rfl ?_ | refine WC.exit ?_ | refine blk_hit ?_ | refine blk_miss rfl ?_ | refine WC.ret ?_)
              refine WC.cond rfl (fun hr => ?_) (fun hr => ?_)
              · have hr : 0 < r := of_decide_eq_true hr
                have hz : sizN tab R.length (iniM R.length) 0 = none := by rw [hS]; unfold finN; rw [hf]; exact if_pos hr
                repeat (first | refine WC.seq ?_ | refine WC.reg ?_ | refine WL.pure rfl rfl rfl ?_ | refine WL.nil ?_ | refine WC.skip ?_ | refine WC.block ?_ | refine WC.condT rfl ?_ | refine WC.condF rfl ?_ | refine WL.off rfl rfl rfl ?_ | refine WL.off0 rfl rfl ?_ | refine WC.exit ?_ | refine blk_hit ?_ | refine blk_miss rfl ?_ | refine WC.ret ?_)
                exact Res.two rfl rfl rfl rfl ⟨by rw [hz], hcl _ hp5.nil'⟩
              · have hr : ¬ 0 < r := of_decide_eq_false hr
                have hz : sizN tab R.length (iniM R.length) 0 = some all := by rw [hS]; unfold finN; rw [hf]; exact if_neg hr
                repeat (first | refine WC.seq ?_ | refine WC.reg ?_ | refine WL.pure rfl rfl rfl ?_ | refine WL.nil ?_ | refine WC.skip ?_ | refine WC.block ?_ | refine WC.condT rfl ?_ | refine WC.condF rfl ?_ | refine WL.off rfl rfl rfl ?_ | refine WL.off0 rfl rfl ?_ | refine WC.exit ?_ | refine blk_hit ?_ | refine blk_miss rfl ?_ | refine WC.ret ?_)
                exact Res.two rfl rfl rfl rfl ⟨by rw [hz], hcl _ hp5.nil'⟩
          · have h3 : ¬ sum = 0 := fun h => by rw [h] at h3; simp at h3
            have e2 : IntKind.i64.wrap (all + sum) = all + sum := wrap_i64_in (by omega) (by omega)
            rw [if_neg h3] at hS
            have hTb : Tb now.length (R.map (·.2)) := by rw [hR, hnl, hRl]; exact htb
            repeat (first | refine WC.seq ?_ | refine WC.reg ?_ | refine WL.pure rfl rfl rfl ?_ | refine WL.nil ?_ | refine WC.skip ?_ | refine WC.block ?_ | refine WC.condT rfl ?_ | refine WC.condF rfl ?_ | refine WL.off rfl rfl rfl ?_ | refine WL.off0 rfl rfl ?_ | refine WC.exit ?_ | refine blk_hit ?_ | refine blk_miss rfl ?_ | refine WC.ret ?_)
            refine WL.call rfl rfl rfl rfl rfl ent56 (spread_any xb R _ _ now hnl.symm (by omega) hTb hcn w5 (hA.hp hp5) (Sl.of_obj (hp5.obj 0 rfl) (fun j u hu => by simpa using hu))) ?_
            intro u w6 hu
            rw [hR] at hu
            cases hsp : spM tab now with
            | none =>
              rw [hsp] at hu hS
              obtain ⟨rfl, hp6⟩ := hu
              have hp6 := hp5.nil'.over hp6
              repeat (first | refine WC.seq ?_ | refine WC.reg ?_ | refine WL.pure rfl rfl rfl ?_ | refine WL.nil ?_ | refine WC.skip ?_ | refine WC.block ?_ | refine WC.condT rfl ?_ | refine WC.condF rfl ?_ | refine WL.off rfl rfl rfl ?_ | refine WL.off0 rfl rfl ?_ | refine WC.exit ?_ | refine blk_hit ?_ | refine blk_miss rfl ?_ | refine WC.ret ?_)
              exact Res.two rfl rfl rfl rfl ⟨by rw [hS], hcl _ hp6⟩
            | some nw =>
              rw [hsp] at hu hS
              obtain ⟨b2, rfl, hp6⟩ := hu
              have hp6 := hp5.nil'.over hp6
              obtain ⟨k1, k2⟩ := spM_inv hsp hcn (by rw [hnl, hRl]; exact htb)
              repeat (first | refine WC.seq ?_ | refine WC.reg ?_ | refine WL.pure rfl rfl rfl ?_ | refine WL.nil ?_ | refine WC.skip ?_ | refine WC.block ?_ | refine WC.condT rfl ?_ | refine WC.condF rfl ?_ | refine WL.off rfl rfl rfl ?_ | refine WL.off0 rfl rfl ?_ | refine WC.exit ?_ | refine blk_hit ?_ | refine blk_miss rfl ?_ | refine WC.ret ?_)
              exact ⟨(i + 1, b2, nw, all + sum), (by show R.length - (i + 1) < R.length - i; omega), ⟨rfl, rfl, congrArg (fun z => some (Value.int .i64 z)) e2, rfl, congrArg (fun z => some (Value.int .i64 z)) step, rfl⟩, by omega, by rw [k2, hnl], k1, by omega, by omega, by rw [hq2]; exact hS, hp6⟩
    · have hi : R.length - i = 0 := by have := of_decide_eq_false hc; omega
      rw [hi, sizN] at hS
      repeat (first | refine WC.seq ?_ | refine WC.reg ?_ | refine WL.pure rfl rfl rfl ?_ | refine WL.nil ?_ | refine WC.skip ?_ | refine WC.block ?_ | refine WC.condT rfl ?_ | refine WC.condF rfl ?_ | refine WL.off rfl rfl rfl ?_ | refine WL.off0 rfl rfl ?_ | refine WC.exit ?_ | refine blk_hit ?_ | refine blk_miss rfl ?_ | refine WC.ret ?_)
      refine WL.call rfl rfl rfl rfl rfl ent55 (total_any _ _ now (by omega) hcn w5 (Sl.of_obj (hp5.obj 0 rfl) (fun j u hu => by simpa using hu))) ?_
      rintro _ w6 ⟨rfl, hw6⟩
      obtain rfl := hw6.symm
      cases hf : totM now with
      | none =>
        have hz : sizN tab R.length (iniM R.length) 0 = none := by rw [hS]; unfold finN; rw [hf]
        unfold totV
        repeat (first | refine WC.seq ?_ | refine WC.reg ?_ | refine WL.pure rfl rfl rfl ?_ | refine WL.nil ?_ | refine WC.skip ?_ | refine WC.block ?_ | refine WC.condT rfl ?_ | refine WC.condF rfl ?_ | refine WL.off rfl rfl rfl ?_ | refine WL.off0 rfl rfl ?_ | refine WC.exit ?_ | refine blk_hit ?_ | refine blk_miss rfl ?_ | refine WC.ret ?_)
        exact Res.two rfl rfl rfl rfl ⟨by rw [hz], hcl _ hp5.nil'⟩
      | some r =>
        unfold totV
        repeat (first | refine WC.seq ?_ | refine WC.reg ?_ | refine WL.pure rfl rfl rfl ?_ | refine WL.nil ?_ | refine WC.skip ?_ | refine WC.block ?_ | refine WC.condT rfl ?_ | refine WC.condF rfl ?_ | refine WL.off rfl rfl rfl ?_ | refine WL.off0 rfl rfl ?_ | refine WC.exit ?_ | refine blk_hit ?_ | refine blk_miss rfl ?_ | refine WC.ret ?_)
        refine WC.cond rfl (fun hr => ?_) (fun hr => ?_)
        · have hr : 0 < r := of_decide_eq_true hr
          have hz : sizN tab R.length (iniM R.length) 0 = none := by rw [hS]; unfold finN; rw [hf]; exact if_pos hr
          repeat (first | refine WC.seq ?_ | refine WC.reg ?_ | refine WL.pure rfl rfl rfl ?_ | refine WL.nil ?_ | refine WC.skip ?_ | refine WC.block ?_ | refine WC.condT rfl ?_ | refine WC.condF rfl ?_ | refine WL.off rfl rfl rfl ?_ | refine WL.off0 rfl rfl ?_ | refine WC.exit ?_ | refine blk_hit ?_ | refine blk_miss rfl ?_ | refine WC.ret ?_)
          exact Res.two rfl rfl rfl rfl ⟨by rw [hz], hcl _ hp5.nil'⟩
        · have hr : ¬ 0 < r := of_decide_eq_false hr
          have hz : sizN tab R.length (iniM R.length) 0 = some all := by rw [hS]; unfold finN; rw [hf]; exact if_neg hr
          repeat (first | refine WC.seq ?_ | refine WC.reg ?_ | refine WL.pure rfl rfl rfl ?_ | refine WL.nil ?_ | refine WC.skip ?_ | refine WC.block ?_ | refine WC.condT rfl ?_ | refine WC.condF rfl ?_ | refine WL.off rfl rfl rfl ?_ | refine WL.off0 rfl rfl ?_ | refine WC.exit ?_ | refine blk_hit ?_ | refine blk_miss rfl ?_ | refine WC.ret ?_)
          exact Res.two rfl rfl rfl rfl ⟨by rw [hz], hcl _ hp5.nil'⟩
end Go.Proofs.YtoghnhbjdnjghaaGreat
