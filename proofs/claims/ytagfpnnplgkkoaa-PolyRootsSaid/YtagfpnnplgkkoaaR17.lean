/- The walk of a division of polynomials. -/
import Derived.Test.YtagfpnnplgkkoaaR16
namespace Go.Proofs.Ytagfpnnplgkkoaa
open Go.W Go.Poly Go.Tree
set_option maxRecDepth 100000
attribute [local irreducible] WC WL WQ WS WH

theorem mul_val {p x y : Nat} (hp0 : 0 < p) (hp : p ≤ 1021) (hx : x < p) (hy : y < p) : (IntKind.i64.wrap ((x : Int) * (y : Int))).tmod (p : Int) = ((x * y % p : Nat) : Int) := by
  have h1 : x * y ≤ 1021 * 1021 := Nat.mul_le_mul (by omega) (by omega)
  rw [← Int.natCast_mul]
  generalize x * y = z at *
  rw [wrap_mid (z := (z : Int)) (by omega) (by omega), ← Int.ofNat_tmod]
theorem sub_val {p r c x : Nat} (hp0 : 0 < p) (hp : p ≤ 1021) (hr : r < p) (hc : c < p) (hx : x < p) : IntKind.i64.wrap ((r : Int) - IntKind.i64.wrap ((c : Int) * (x : Int))) % (p : Int) = (((r + (p - c) * x) % p : Nat) : Int) := by
  have h1 : c * x ≤ 1021 * 1021 := Nat.mul_le_mul (by omega) (by omega)
  have h2 : (p - c) * x + c * x = p * x := by rw [← Nat.add_mul, Nat.sub_add_cancel (by omega)]
  rw [← Int.natCast_mul]
  generalize (p - c) * x = y at *
  generalize c * x = z at *
  rw [wrap_mid (z := (z : Int)) (by omega) (by omega), wrap_mid (by omega) (by omega)]
  have h3 : (r : Int) - (z : Int) = ((r + y : Nat) : Int) + (p : Int) * (-(x : Int)) := by
    have h4 : (y : Int) + (z : Int) = (p : Int) * (x : Int) := by rw [← Int.natCast_mul, ← h2]; omega
    rw [Int.mul_neg]; omega
  rw [h3, Int.add_mul_emod_self_left, ← Int.natCast_emod]

theorem div_any (fa ga : Option Addr) (fc gc p : Nat) (f g : List Nat) (hpp : Pri p) (hp : p ≤ 1021) (hf : IsP p f) (hg : IsP p g) (hg0 : 0 < g.length) (hlf : f.length ≤ 1000) (hlg : g.length ≤ 1000) (hfa : fa = none → f.length = 0 ∧ fc = 0) (w : World) (sf : Sl w fa (ints f)) (sg_ : Sl w ga (ints g)) :
    Ret Try.prog 48 [.int .i64 (p : Nat), .slice fa f.length fc, .slice ga g.length gc] w fun u w' => ∃ qa qc ra rc, u = .tuple #[.slice qa (divL p f g (iv p (co g (g.length - 1)))).1.length qc, .slice ra (divL p f g (iv p (co g (g.length - 1)))).2.length rc] ∧
      Hp w w' [.row 3 1 (.slice qa (divL p f g (iv p (co g (g.length - 1)))).1.length qc) (divL p f g (iv p (co g (g.length - 1)))).1.length (ints (divL p f g (iv p (co g (g.length - 1)))).1),
        .row 3 1 (.slice ra (divL p f g (iv p (co g (g.length - 1)))).2.length rc) (divL p f g (iv p (co g (g.length - 1)))).2.length (ints (divL p f g (iv p (co g (g.length - 1)))).2)] := by
  have hp0 := hpp.pos
  have htop := hg.2.resolve_left (fun e => by subst e; simp at hg0)
  have htl := hg.co hp0 (g.length - 1)
  refine enter Try.func48 rfl rfl ⟨rfl, rfl⟩ rfl ?_
  repeat (first | refine WC.seq ?_ | refine WC.reg ?_ | refine WL.pure rfl rfl rfl ?_ | refine WL.nil ?_ | refine WC.skip ?_ | refine WC.block ?_ | refine WC.condT rfl ?_ | refine WC.condF rfl ?_ | refine WL.off rfl rfl rfl ?_ | refine WL.off0 rfl rfl ?_ | refine WC.exit ?_ | refine blk_hit ?_ | refine blk_miss rfl ?_ | refine WC.ret ?_)
  refine WL.make (m := f.length) rfl rfl rfl rfl rfl rfl rfl rfl ?_ ?_ ?_
  · show 8 * f.length ≤ _; omega
  · unfold maxLen; omega
  intro b w1 hb
  have hp1 := (Hp.start w).new hb
  repeat (first | refine WC.seq ?_ | refine WC.reg ?_ | refine WL.pure rfl rfl rfl ?_ | refine WL.nil ?_ | refine WC.skip ?_ | refine WC.block ?_ | refine WC.condT rfl ?_ | refine WC.condF rfl ?_ | refine WL.off rfl rfl rfl ?_ | refine WL.off0 rfl rfl ?_ | refine WC.exit ?_ | refine blk_hit ?_ | refine blk_miss rfl ?_ | refine WC.ret ?_)
  refine WL.copyO rfl rfl rfl rfl rfl rfl rfl hfa (hp1.obj 0 rfl) (sf.hp hp1) (ints_len f) (by simp) (ints_cells f) ?_
  intro w2 hw2
  have hp2 := hp1.set 0 rfl rfl hw2
  repeat (first | refine WC.seq ?_ | refine WC.reg ?_ | refine WL.pure rfl rfl rfl ?_ | refine WL.nil ?_ | refine WC.skip ?_ | refine WC.block ?_ | refine WC.condT rfl ?_ | refine WC.condF rfl ?_ | refine WL.off rfl rfl rfl ?_ | refine WL.off0 rfl rfl ?_ | refine WC.exit ?_ | refine blk_hit ?_ | refine blk_miss rfl ?_ | refine WC.ret ?_)
  refine WC.cond rfl (fun hc => ?_) (fun hc => ?_)
  · have hc : f.length < g.length := by have := of_decide_eq_true hc; omega
    have hd : divL p f g (iv p (co g (g.length - 1))) = ([], f) := by rw [divL, if_pos hc]
    rw [hd]
    have hp3 := hp2.toRow (m := f.length) (s := 1) (by simp [ints]) (by unfold maxLen; omega)
    have hp3 : Hp w w2 [.row 3 1 (.slice (some ⟨b, 0, none⟩) f.length f.length) f.length (ints f)] := hp3
    repeat (first | refine WC.seq ?_ | refine WC.reg ?_ | refine WL.pure rfl rfl rfl ?_ | refine WL.nil ?_ | refine WC.skip ?_ | refine WC.block ?_ | refine WC.condT rfl ?_ | refine WC.condF rfl ?_ | refine WL.off rfl rfl rfl ?_ | refine WL.off0 rfl rfl ?_ | refine WC.exit ?_ | refine blk_hit ?_ | refine blk_miss rfl ?_ | refine WC.ret ?_)
    exact Res.two rfl rfl rfl rfl ⟨none, 0, some ⟨b, 0, none⟩, f.length, rfl, hp3.nilrow 3 1⟩
  have hge : g.length ≤ f.length := by have := of_decide_eq_false hc; omega
  have hin := inverse_any p _ hpp (show 0 < co g (g.length - 1) by omega) htl (by omega)
  have hlead : iv p (co g (g.length - 1)) < p := iv_lt hp0 _
  generalize iv p (co g (g.length - 1)) = lead at *
  have hd : divL p f g lead = (fl (f.length - g.length + 1) (dvG p g lead (f.length - g.length + 1) (co f)).1, trimL (fl f.length (dvG p g lead (f.length - g.length + 1) (co f)).2)) := by rw [divL, if_neg (by omega)]
  have en : IntKind.i64.wrap (IntKind.i64.wrap ((f.length : Int) - (g.length : Int)) + 1) = ((f.length - g.length + 1 : Nat) : Int) := by
    rw [wrap_mid (z := (f.length : Int) - (g.length : Int)) (by omega) (by omega), wrap_mid (by omega) (by omega)]; omega
  have eg : IntKind.i64.wrap ((g.length : Int) - 1) = ((g.length - 1 : Nat) : Int) := by rw [wrap_mid (by omega) (by omega)]; omega
  generalize hnn : f.length - g.length + 1 = n at *
  generalize hQR : dvG p g lead n (co f) = QR at *
  clear hc
  repeat (first | refine WC.seq ?_ | refine WC.reg ?_ | refine WL.pure rfl rfl rfl ?_ | refine WL.nil ?_ | refine WC.skip ?_ | refine WC.block ?_ | refine WC.condT rfl ?_ | refine WC.condF rfl ?_ | refine WL.off rfl rfl rfl ?_ | refine WL.off0 rfl rfl ?_ | refine WC.exit ?_ | refine blk_hit ?_ | refine blk_miss rfl ?_ | refine WC.ret ?_)
  refine WL.known (d := 32) (congrArg (fun z => some (Value.int .i64 z)) en) ?_
  refine WL.make (m := n) rfl rfl rfl rfl rfl rfl rfl rfl ?_ ?_ ?_
  · show 8 * n ≤ _; omega
  · unfold maxLen; omega
  intro bq w3 hbq
  have hz : (List.replicate n ti3.zero) = ints (fl n fun _ => 0) := by rw [show ti3.zero = Value.int .i64 0 from rfl, ints_zero]
  rw [hz] at hbq
  have hp3 := hp2.new hbq
  have hself : ints f = ints (fl f.length (co f)) := by rw [fl_self]
  rw [hself] at hp3
  repeat (first | refine WC.seq ?_ | refine WC.reg ?_ | refine WL.pure rfl rfl rfl ?_ | refine WL.nil ?_ | refine WC.skip ?_ | refine WC.block ?_ | refine WC.condT rfl ?_ | refine WC.condF rfl ?_ | refine WL.off rfl rfl rfl ?_ | refine WL.off0 rfl rfl ?_ | refine WC.exit ?_ | refine blk_hit ?_ | refine blk_miss rfl ?_ | refine WC.ret ?_)
  refine WL.known (d := 38) (congrArg (fun z => some (Value.int .i64 z)) eg) ?_
  refine WL.ixload rfl (fun _ => rfl) rfl rfl rfl rfl rfl rfl rfl (show g.length - 1 < g.length by omega) rfl rfl (sg_.hp hp3) (ints_at (show g.length - 1 < g.length by omega)) ?_
  intro pa
  refine WL.callP rfl rfl rfl rfl rfl ent55 (hin _) ?_
  have en1 : IntKind.i64.wrap ((n : Int) - 1) = (n : Int) - 1 := wrap_mid (by omega) (by omega)
  repeat (first | refine WC.seq ?_ | refine WC.reg ?_ | refine WL.pure rfl rfl rfl ?_ | refine WL.nil ?_ | refine WC.skip ?_ | refine WC.block ?_ | refine WC.condT rfl ?_ | refine WC.condF rfl ?_ | refine WL.off rfl rfl rfl ?_ | refine WL.off0 rfl rfl ?_ | refine WC.exit ?_ | refine blk_hit ?_ | refine blk_miss rfl ?_ | refine WC.ret ?_)
  refine WC.loop (Nat × (Nat → Nat) × (Nat → Nat)) (fun (m, r, q) => [(0, .int .i64 (p : Nat)), (2, .slice ga g.length gc), (8, .slice (some ⟨b, 0, none⟩) f.length f.length), (9, .slice (some ⟨bq, 0, none⟩) n n), (10, .int .i64 (lead : Nat)), (11, .int .i64 ((m : Int) - 1))])
    (fun (m, r, q) w' => m ≤ n ∧ (∀ j, r j < p) ∧ (dvG p g lead m r).2 = QR.2 ∧ (∀ j, j < m → (dvG p g lead m r).1 j = QR.1 j) ∧ (∀ j, m ≤ j → j < n → q j = QR.1 j) ∧ Hp w w' [.blk bq (.cells (ints (fl n q)).toArray 3 (0, 0)), .blk b (.cells (ints (fl f.length r)).toArray 3 (0, 0))]) (fun (m, _) => m) (n, co f, fun _ => 0)
    ⟨rfl, rfl, rfl, rfl, rfl, congrArg (fun z => some (Value.int .i64 z)) en1, rfl⟩ ⟨Nat.le_refl _, hf.co hp0, by rw [hQR], fun j _ => by rw [hQR], fun j h1 h2 => by omega, hp3⟩ ?_
  rintro ⟨m, r, q⟩ w4 ⟨hm, hr, hR, hQ, hq, hp4⟩
  repeat (first | refine WC.seq ?_ | refine WC.reg ?_ | refine WL.pure rfl rfl rfl ?_ | refine WL.nil ?_ | refine WC.skip ?_ | refine WC.block ?_ | refine WC.condT rfl ?_ | refine WC.condF rfl ?_ | refine WL.off rfl rfl rfl ?_ | refine WL.off0 rfl rfl ?_ | refine WC.exit ?_ | refine blk_hit ?_ | refine blk_miss rfl ?_ | refine WC.ret ?_)
  refine WC.cond rfl (fun hc => ?_) (fun hc => ?_)
  · have hm0 : 0 < m := by have := of_decide_eq_true hc; omega
    obtain ⟨k, rfl⟩ : ∃ k, m = k + 1 := ⟨m - 1, by omega⟩
    have ek : ((k + 1 : Nat) : Int) - 1 = ((k : Nat) : Int) := by omega
    have step : IntKind.i64.wrap ((((k + 1 : Nat) : Int) - 1) - 1) = ((k : Nat) : Int) - 1 := by rw [ek]; exact wrap_mid (by omega) (by omega)
    have hkl : k + g.length - 1 < f.length := by omega
    have eidx : IntKind.i64.wrap (IntKind.i64.wrap (((k : Nat) : Int) + (g.length : Int)) - 1) = ((k + g.length - 1 : Nat) : Int) := by
      rw [wrap_mid (z := ((k : Nat) : Int) + (g.length : Int)) (by omega) (by omega), wrap_mid (by omega) (by omega)]; omega
    have eidx2 : IntKind.i64.wrap (IntKind.i64.wrap ((((k + 1 : Nat) : Int) - 1) + (g.length : Int)) - 1) = ((k + g.length - 1 : Nat) : Int) := by rw [ek]; exact eidx
    have hv1 : (ints (fl f.length r))[k + g.length - 1]? = some (.int .i64 (r (k + g.length - 1) : Nat)) := by simp [ints, fl, hkl]
    have ec := mul_val hp0 hp (hr (k + g.length - 1)) hlead
    have hclt := Nat.mod_lt (r (k + g.length - 1) * lead) hp0
    have hR2 : (dvG p g lead k (dvS p g (r (k + g.length - 1) * lead % p) k g.length r)).2 = QR.2 := hR
    have hQ2 : ∀ j, j < k → (dvG p g lead k (dvS p g (r (k + g.length - 1) * lead % p) k g.length r)).1 j = QR.1 j := by
      intro j hj
      rw [← hQ j (by omega), dvG]
      simp only
      rw [if_neg (by omega)]
    have hQk : QR.1 k = r (k + g.length - 1) * lead % p := by rw [← hQ k (by omega), dvG]; simp
    have hsl : Sl w4 (some ⟨b, 0, none⟩) (ints (fl f.length r)) := Sl.of_obj (hp4.obj 1 rfl) (fun q u hq => by simpa using hq)
    generalize r (k + g.length - 1) * lead % p = c at *
    repeat (first | refine WC.seq ?_ | refine WC.reg ?_ | refine WL.pure rfl rfl rfl ?_ | refine WL.nil ?_ | refine WC.skip ?_ | refine WC.block ?_ | refine WC.condT rfl ?_ | refine WC.condF rfl ?_ | refine WL.off rfl rfl rfl ?_ | refine WL.off0 rfl rfl ?_ | refine WC.exit ?_ | refine blk_hit ?_ | refine blk_miss rfl ?_ | refine WC.ret ?_)
    refine WL.known (d := 54) (congrArg (fun z => some (Value.int .i64 z)) eidx2) ?_
    refine WL.ixload rfl (fun _ => rfl) rfl rfl rfl rfl rfl rfl rfl hkl rfl rfl hsl hv1 ?_
    intro pb
    repeat (first | refine WC.seq ?_ | refine WC.reg ?_ | refine WL.pure rfl rfl rfl ?_ | refine WL.nil ?_ | refine WC.skip ?_ | refine WC.block ?_ | refine WC.condT rfl ?_ | refine WC.condF rfl ?_ | refine WL.off rfl rfl rfl ?_ | refine WL.off0 rfl rfl ?_ | refine WC.exit ?_ | refine blk_hit ?_ | refine blk_miss rfl ?_ | refine WC.ret ?_)
    refine WL.rem rfl rfl rfl rfl (by omega) ?_
    refine WL.known (d := 60) (congrArg (fun z => some (Value.int .i64 z)) ec) ?_
    repeat (first | refine WC.seq ?_ | refine WC.reg ?_ | refine WL.pure rfl rfl rfl ?_ | refine WL.nil ?_ | refine WC.skip ?_ | refine WC.block ?_ | refine WC.condT rfl ?_ | refine WC.condF rfl ?_ | refine WL.off rfl rfl rfl ?_ | refine WL.off0 rfl rfl ?_ | refine WC.exit ?_ | refine blk_hit ?_ | refine blk_miss rfl ?_ | refine WC.ret ?_)
    refine WL.known (d := 62) (congrArg (fun z => some (Value.int .i64 z)) ek) ?_
    refine WL.ix1 rfl rfl rfl rfl rfl rfl rfl (j := k) (by omega) ?_
    refine WL.store rfl rfl rfl rfl rfl rfl (hp4.obj 0 rfl) (by simp [ints, fl]; omega) (fun w5 hw5 => ?_)
    rw [Nat.zero_add, ints_set, fl_set] at hw5
    have hp5 := hp4.set 0 rfl rfl hw5
    have hr0 : fl f.length r = fl f.length (dvS p g c k 0 r) := fl_congr fun j _ => by rw [dvS, if_neg (by omega)]
    rw [hr0] at hp5
    repeat (first | refine WC.seq ?_ | refine WC.reg ?_ | refine WL.pure rfl rfl rfl ?_ | refine WL.nil ?_ | refine WC.skip ?_ | refine WC.block ?_ | refine WC.condT rfl ?_ | refine WC.condF rfl ?_ | refine WL.off rfl rfl rfl ?_ | refine WL.off0 rfl rfl ?_ | refine WC.exit ?_ | refine blk_hit ?_ | refine blk_miss rfl ?_ | refine WC.ret ?_)
    refine WC.loop Nat (fun i => [(0, .int .i64 (p : Nat)), (2, .slice ga g.length gc), (8, .slice (some ⟨b, 0, none⟩) f.length f.length), (9, .slice (some ⟨bq, 0, none⟩) n n), (10, .int .i64 (lead : Nat)), (11, .int .i64 (((k + 1 : Nat) : Int) - 1)), (12, .int .i64 (c : Nat)), (65, .slice ga g.length gc), (66, .int .i64 (g.length : Nat)), (67, .int .i64 (i : Nat))])
      (fun i w' => i ≤ g.length ∧ Hp w w' [.blk bq (.cells (ints (fl n fun j => if j = k then c else q j)).toArray 3 (0, 0)), .blk b (.cells (ints (fl f.length (dvS p g c k i r))).toArray 3 (0, 0))]) (fun i => g.length - i) 0 ⟨rfl, rfl, rfl, rfl, rfl, rfl, rfl, rfl, rfl, rfl, rfl⟩ ⟨Nat.zero_le _, hp5⟩ ?_
    rintro i w6 ⟨hi, hp6⟩
    repeat (first | refine WC.seq ?_ | refine WC.reg ?_ | refine WL.pure rfl rfl rfl ?_ | refine WL.nil ?_ | refine WC.skip ?_ | refine WC.block ?_ | refine WC.condT rfl ?_ | refine WC.condF rfl ?_ | refine WL.off rfl rfl rfl ?_ | refine WL.off0 rfl rfl ?_ | refine WC.exit ?_ | refine blk_hit ?_ | refine blk_miss rfl ?_ | refine WC.ret ?_)
    refine WC.cond rfl (fun hc2 => ?_) (fun hc2 => ?_)
    · have hi : i < g.length := by have := of_decide_eq_true hc2; omega
      have step2 : IntKind.i64.wrap ((i : Int) + 1) = ((i + 1 : Nat) : Int) := by rw [wrap_i64_in (by omega) (by omega)]; omega
      have eki : IntKind.i64.wrap ((((k + 1 : Nat) : Int) - 1) + (i : Int)) = ((k + i : Nat) : Int) := by rw [ek, wrap_i64_in (by omega) (by omega)]; omega
      have hki : k + i < f.length := by omega
      have hsl6 : Sl w6 (some ⟨b, 0, none⟩) (ints (fl f.length (dvS p g c k i r))) := Sl.of_obj (hp6.obj 1 rfl) (fun q u hq => by simpa using hq)
      have hv6 : (ints (fl f.length (dvS p g c k i r)))[k + i]? = some (.int .i64 (dvS p g c k i r (k + i) : Nat)) := by simp [ints, fl, hki]
      have es := sub_val hp0 hp (dvS_lt hp0 (c := c) (k := k) (i := i) (g := g) hr (k + i)) hclt (hg.co hp0 i)
      repeat (first | refine WC.seq ?_ | refine WC.reg ?_ | refine WL.pure rfl rfl rfl ?_ | refine WL.nil ?_ | refine WC.skip ?_ | refine WC.block ?_ | refine WC.condT rfl ?_ | refine WC.condF rfl ?_ | refine WL.off rfl rfl rfl ?_ | refine WL.off0 rfl rfl ?_ | refine WC.exit ?_ | refine blk_hit ?_ | refine blk_miss rfl ?_ | refine WC.ret ?_)
      refine WL.ixload rfl (fun _ => rfl) rfl rfl rfl rfl rfl rfl rfl hi rfl rfl (sg_.hp hp6) (ints_at hi) ?_
      intro pc
      repeat (first | refine WC.seq ?_ | refine WC.reg ?_ | refine WL.pure rfl rfl rfl ?_ | refine WL.nil ?_ | refine WC.skip ?_ | refine WC.block ?_ | refine WC.condT rfl ?_ | refine WC.condF rfl ?_ | refine WL.off rfl rfl rfl ?_ | refine WL.off0 rfl rfl ?_ | refine WC.exit ?_ | refine blk_hit ?_ | refine blk_miss rfl ?_ | refine WC.ret ?_)
      refine WL.known (d := 80) (congrArg (fun z => some (Value.int .i64 z)) eki) ?_
      refine WL.known (d := 75) (congrArg (fun z => some (Value.int .i64 z)) eki) ?_
      refine WL.ixload rfl (fun _ => rfl) rfl rfl rfl rfl rfl rfl rfl hki rfl rfl hsl6 hv6 ?_
      intro pd
      repeat (first | refine WC.seq ?_ | refine WC.reg ?_ | refine WL.pure rfl rfl rfl ?_ | refine WL.nil ?_ | refine WC.skip ?_ | refine WC.block ?_ | refine WC.condT rfl ?_ | refine WC.condF rfl ?_ | refine WL.off rfl rfl rfl ?_ | refine WL.off0 rfl rfl ?_ | refine WC.exit ?_ | refine blk_hit ?_ | refine blk_miss rfl ?_ | refine WC.ret ?_)
      refine WL.callP rfl rfl rfl rfl rfl ent54 (mod_any p _ hp0 (by omega) _) ?_
      refine WL.known (d := 87) (congrArg (fun z => some (Value.int .i64 z)) es) ?_
      refine WL.ix1 rfl rfl rfl rfl rfl rfl rfl (j := k + i) hki ?_
      refine WL.store rfl rfl rfl rfl rfl rfl (hp6.obj 1 rfl) (by simp [ints, fl]; omega) (fun w7 hw7 => ?_)
      have e1 : (fl f.length (dvS p g c k i r)).set (k + i) ((dvS p g c k i r (k + i) + (p - c) * co g i) % p) = fl f.length (dvS p g c k (i + 1) r) := by
        rw [fl_set]
        refine fl_congr fun m _ => ?_
        rw [dvS_step]
        by_cases h : m = k + i
        · rw [if_pos h, if_pos h, h]
        · rw [if_neg h, if_neg h]
      rw [Nat.zero_add, ints_set, e1] at hw7
      have hp7 := hp6.set 1 rfl rfl hw7
      repeat (first | refine WC.seq ?_ | refine WC.reg ?_ | refine WL.pure rfl rfl rfl ?_ | refine WL.nil ?_ | refine WC.skip ?_ | refine WC.block ?_ | refine WC.condT rfl ?_ | refine WC.condF rfl ?_ | refine WL.off rfl rfl rfl ?_ | refine WL.off0 rfl rfl ?_ | refine WC.exit ?_ | refine blk_hit ?_ | refine blk_miss rfl ?_ | refine WC.ret ?_)
      exact ⟨i + 1, by show g.length - (i + 1) < g.length - i; omega, ⟨rfl, rfl, rfl, rfl, rfl, rfl, rfl, rfl, rfl, congrArg (fun z => some (Value.int .i64 z)) step2, rfl⟩, hi, hp7⟩
    · have hi : i = g.length := by have := of_decide_eq_false hc2; omega
      subst i
      repeat (first | refine WC.seq ?_ | refine WC.reg ?_ | refine WL.pure rfl rfl rfl ?_ | refine WL.nil ?_ | refine WC.skip ?_ | refine WC.block ?_ | refine WC.condT rfl ?_ | refine WC.condF rfl ?_ | refine WL.off rfl rfl rfl ?_ | refine WL.off0 rfl rfl ?_ | refine WC.exit ?_ | refine blk_hit ?_ | refine blk_miss rfl ?_ | refine WC.ret ?_)
      refine ⟨(k, dvS p g c k g.length r, fun j => if j = k then c else q j), by show k < k + 1; omega, ⟨rfl, rfl, rfl, rfl, rfl, congrArg (fun z => some (Value.int .i64 z)) step, rfl⟩, by omega, dvS_lt hp0 hr, hR2, hQ2, fun j h1 h2 => ?_, hp6⟩
      simp only
      by_cases h : j = k
      · rw [if_pos h, h, hQk]
      · rw [if_neg h]; exact hq j (by omega) h2
  · have hm0 : m = 0 := by have := of_decide_eq_false hc; omega
    subst hm0
    have hrR : r = QR.2 := hR
    have hqQ : fl n q = fl n QR.1 := fl_congr fun j hj => hq j (Nat.zero_le _) hj
    rw [hrR, hqQ] at hp4
    rw [hd]
    generalize hs : fl f.length QR.2 = s at *
    have hsl : s.length = f.length := by rw [← hs, fl_len]
    have hp5 := Hp.swap hp4
    have htr := trim_any (some ⟨b, 0, none⟩) f.length s (by omega) (by omega) w4 (Sl.of_obj (hp4.obj 1 rfl) (fun q u hq => by simpa using hq))
    rw [hsl] at htr
    repeat (first | refine WC.seq ?_ | refine WC.reg ?_ | refine WL.pure rfl rfl rfl ?_ | refine WL.nil ?_ | refine WC.skip ?_ | refine WC.block ?_ | refine WC.condT rfl ?_ | refine WC.condF rfl ?_ | refine WL.off rfl rfl rfl ?_ | refine WL.off0 rfl rfl ?_ | refine WC.exit ?_ | refine blk_hit ?_ | refine blk_miss rfl ?_ | refine WC.ret ?_)
    refine WL.call rfl rfl rfl rfl rfl ent70 htr ?_
    rintro _ w5 ⟨rfl, rfl⟩
    have htl := trim_len s
    have hle := tn_le s s.length
    have hp6 := hp5.toRowN (m := f.length) (s := 1) (trimL s).length (by simp [ints, hsl]) (by unfold maxLen; omega) (by omega)
    have e4 : (ints s).toArray.toList.take ((trimL s).length * 1) = ints (trimL s) := by
      rw [Nat.mul_one, htl]
      show (ints s).take (tn s s.length) = _
      rw [ints_take]; rfl
    rw [e4] at hp6
    have hp7 := hp6.swap.toRow (m := n) (s := 1) (by simp [ints, fl]) (by unfold maxLen; omega)
    have hl : (fl n QR.1).length = n := fl_len _ _
    repeat (first | refine WC.seq ?_ | refine WC.reg ?_ | refine WL.pure rfl rfl rfl ?_ | refine WL.nil ?_ | refine WC.skip ?_ | refine WC.block ?_ | refine WC.condT rfl ?_ | refine WC.condF rfl ?_ | refine WL.off rfl rfl rfl ?_ | refine WL.off0 rfl rfl ?_ | refine WC.exit ?_ | refine blk_hit ?_ | refine blk_miss rfl ?_ | refine WC.ret ?_)
    exact Res.two rfl rfl rfl rfl ⟨some ⟨bq, 0, none⟩, n, some ⟨b, 0, none⟩, f.length, by simp only [hl], by simp only [hl]; exact hp7⟩
end Go.Proofs.Ytagfpnnplgkkoaa
