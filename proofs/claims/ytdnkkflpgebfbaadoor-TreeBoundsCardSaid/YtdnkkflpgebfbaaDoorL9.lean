/- The walks of 'apart', 'Apart', 'Compare', 'Clique'. -/
import Derived.Test.YtdnkkflpgebfbaaDoorL8
import Derived.Test.YtdnkkflpgebfbaaDoorL3
import Derived.Test.YtdnkkflpgebfbaaDoorAp
namespace Go.Proofs.YtdnkkflpgebfbaaDoor
open Go.W Go.Tree
set_option maxRecDepth 100000
attribute [local irreducible] WC WL WQ WS

theorem graph_hp {w w' : World} {n : Int} {es : List Ed} {v : Value} {g : List Nat} (h : GraphIs w n es v w') (hg : mkG n es = some g) :
    ∃ b, Hp w w' [.blk b (.cells (ints g).toArray 76 (0, 0))] ∧ v = .tuple #[.slice (some ⟨b, 0, none⟩) g.length g.length, .bool true] := by
  obtain ⟨hb, h⟩ := h
  rw [hg] at h
  obtain ⟨b, h1, h2, h3⟩ := h
  exact ⟨b, ⟨hb, fun x hx => by simp only [List.mem_singleton] at hx; subst hx; exact ⟨h1, h2⟩, List.pairwise_singleton _ _⟩, h3⟩
theorem graph_none {w w' : World} {n : Int} {es : List Ed} {v : Value} (h : GraphIs w n es v w') (hg : mkG n es = none) :
    Hp w w' [] ∧ v = .tuple #[.slice none 0 0, .bool false] := by
  obtain ⟨hb, h⟩ := h
  rw [hg] at h
  exact ⟨⟨hb, (fun x hx => by cases hx), List.Pairwise.nil⟩, h⟩

theorem apart1_any (ga : Option Addr) (cap : Nat) (g : List Nat) (bg : Nat) (w : World) (hs : Sl w ga (ints g)) (hg : Gr g) (hb : w.heap[bg]? = some (.cells #[.slice ga g.length cap] 68 (0, 0))) (u v : Nat) (hu : u < g.length) :
    Ret Tryd.prog 64 [.int .i64 u, .int .i64 v, .pointer (some ⟨bg, 0, none⟩)] w fun r w' => r = .bool (!nb g u v) ∧ w' = w := by
  have hgu := lt_pow16 hg.len (hg.lt u)
  refine enter Tryd.func64 rfl rfl ⟨rfl, rfl⟩ rfl ?_
  repeat (first | refine WC.seq ?_ | refine WC.reg ?_ | refine WL.pure rfl rfl rfl ?_ | refine WL.nil ?_ | refine WC.skip ?_ | refine WC.block ?_ | refine WC.condT rfl ?_ | refine WC.condF rfl ?_ | refine WL.off rfl rfl rfl ?_ | refine WL.off0 rfl rfl ?_ | refine WC.exit ?_ | refine blk_hit ?_ | refine blk_miss rfl ?_ | refine WC.ret ?_)
  refine WL.loadB rfl rfl rfl rfl rfl hb rfl ?_
  repeat (first | refine WC.seq ?_ | refine WC.reg ?_ | refine WL.pure rfl rfl rfl ?_ | refine WL.nil ?_ | refine WC.skip ?_ | refine WC.block ?_ | refine WC.condT rfl ?_ | refine WC.condF rfl ?_ | refine WL.off rfl rfl rfl ?_ | refine WL.off0 rfl rfl ?_ | refine WC.exit ?_ | refine blk_hit ?_ | refine blk_miss rfl ?_ | refine WC.ret ?_)
  refine WL.ixload rfl (fun _ => rfl) rfl rfl rfl rfl rfl rfl rfl hu rfl rfl hs (ints_at hu) ?_
  intro p
  repeat (first | refine WC.seq ?_ | refine WC.reg ?_ | refine WL.pure rfl rfl rfl ?_ | refine WL.nil ?_ | refine WC.skip ?_ | refine WC.block ?_ | refine WC.condT rfl ?_ | refine WC.condF rfl ?_ | refine WL.off rfl rfl rfl ?_ | refine WL.off0 rfl rfl ?_ | refine WC.exit ?_ | refine blk_hit ?_ | refine blk_miss rfl ?_ | refine WC.ret ?_)
  refine WL.callP rfl rfl rfl rfl rfl ent44 (has_any _ _ (by omega) _) ?_
  repeat (first | refine WC.seq ?_ | refine WC.reg ?_ | refine WL.pure rfl rfl rfl ?_ | refine WL.nil ?_ | refine WC.skip ?_ | refine WC.block ?_ | refine WC.condT rfl ?_ | refine WC.condF rfl ?_ | refine WL.off rfl rfl rfl ?_ | refine WL.off0 rfl rfl ?_ | refine WC.exit ?_ | refine blk_hit ?_ | refine blk_miss rfl ?_ | refine WC.ret ?_)
  exact Res.one rfl rfl rfl ⟨rfl, rfl⟩

theorem clique1_any (ga : Option Addr) (cap : Nat) (g : List Nat) (bg : Nat) (w : World) (hs : Sl w ga (ints g)) (hg : Gr g) (hb : w.heap[bg]? = some (.cells #[.slice ga g.length cap] 68 (0, 0))) (u v : Nat) (hu : u < g.length) :
    Ret Tryd.prog 43 [.int .i64 u, .int .i64 v, .pointer (some ⟨bg, 0, none⟩)] w fun r w' => r = .bool (nb g u v) ∧ w' = w := by
  have hgu := lt_pow16 hg.len (hg.lt u)
  refine enter Tryd.func43 rfl rfl ⟨rfl, rfl⟩ rfl ?_
  repeat (first | refine WC.seq ?_ | refine WC.reg ?_ | refine WL.pure rfl rfl rfl ?_ | refine WL.nil ?_ | refine WC.skip ?_ | refine WC.block ?_ | refine WC.condT rfl ?_ | refine WC.condF rfl ?_ | refine WL.off rfl rfl rfl ?_ | refine WL.off0 rfl rfl ?_ | refine WC.exit ?_ | refine blk_hit ?_ | refine blk_miss rfl ?_ | refine WC.ret ?_)
  refine WL.loadB rfl rfl rfl rfl rfl hb rfl ?_
  repeat (first | refine WC.seq ?_ | refine WC.reg ?_ | refine WL.pure rfl rfl rfl ?_ | refine WL.nil ?_ | refine WC.skip ?_ | refine WC.block ?_ | refine WC.condT rfl ?_ | refine WC.condF rfl ?_ | refine WL.off rfl rfl rfl ?_ | refine WL.off0 rfl rfl ?_ | refine WC.exit ?_ | refine blk_hit ?_ | refine blk_miss rfl ?_ | refine WC.ret ?_)
  refine WL.ixload rfl (fun _ => rfl) rfl rfl rfl rfl rfl rfl rfl hu rfl rfl hs (ints_at hu) ?_
  intro p
  repeat (first | refine WC.seq ?_ | refine WC.reg ?_ | refine WL.pure rfl rfl rfl ?_ | refine WL.nil ?_ | refine WC.skip ?_ | refine WC.block ?_ | refine WC.condT rfl ?_ | refine WC.condF rfl ?_ | refine WL.off rfl rfl rfl ?_ | refine WL.off0 rfl rfl ?_ | refine WC.exit ?_ | refine blk_hit ?_ | refine blk_miss rfl ?_ | refine WC.ret ?_)
  refine WL.callP rfl rfl rfl rfl rfl ent44 (has_any _ _ (by omega) _) ?_
  repeat (first | refine WC.seq ?_ | refine WC.reg ?_ | refine WL.pure rfl rfl rfl ?_ | refine WL.nil ?_ | refine WC.skip ?_ | refine WC.block ?_ | refine WC.condT rfl ?_ | refine WC.condF rfl ?_ | refine WL.off rfl rfl rfl ?_ | refine WL.off0 rfl rfl ?_ | refine WC.exit ?_ | refine blk_hit ?_ | refine blk_miss rfl ?_ | refine WC.ret ?_)
  exact Res.one rfl rfl rfl ⟨rfl, rfl⟩

def ap (g : List Nat) (u v : Nat) : Bool := !nb g u v

theorem apart_any (ga : Option Addr) (cap : Nat) (g : List Nat) (w : World) (hs : Sl w ga (ints g)) (hT : Tb w) (hg : Gr g) :
    Ret Tryd.prog 40 [.slice ga g.length cap] w fun v w' =>
      ∃ b, Hp w w' [.blk b (.cells (bls (frRow (ap g) g.length (2 ^ g.length))).toArray 4 (0, 0))] ∧ v = .slice (some ⟨b, 0, none⟩) (2 ^ g.length) (2 ^ g.length) := by
  refine enter Tryd.func40 rfl rfl ⟨rfl, rfl⟩ rfl ?_
  repeat (first | refine WC.seq ?_ | refine WC.reg ?_ | refine WL.pure rfl rfl rfl ?_ | refine WL.nil ?_ | refine WC.skip ?_ | refine WC.block ?_ | refine WC.condT rfl ?_ | refine WC.condF rfl ?_ | refine WL.off rfl rfl rfl ?_ | refine WL.off0 rfl rfl ?_ | refine WC.exit ?_ | refine blk_hit ?_ | refine blk_miss rfl ?_ | refine WC.ret ?_)
  refine WL.box rfl rfl rfl ?_
  intro bg w1 hbg
  have hp1 := (Hp.start w).new hbg
  repeat (first | refine WC.seq ?_ | refine WC.reg ?_ | refine WL.pure rfl rfl rfl ?_ | refine WL.nil ?_ | refine WC.skip ?_ | refine WC.block ?_ | refine WC.condT rfl ?_ | refine WC.condF rfl ?_ | refine WL.off rfl rfl rfl ?_ | refine WL.off0 rfl rfl ?_ | refine WC.exit ?_ | refine blk_hit ?_ | refine blk_miss rfl ?_ | refine WC.ret ?_)
  refine WL.loadB rfl rfl rfl rfl rfl (hp1.obj 0 rfl) rfl ?_
  repeat (first | refine WC.seq ?_ | refine WC.reg ?_ | refine WL.pure rfl rfl rfl ?_ | refine WL.nil ?_ | refine WC.skip ?_ | refine WC.block ?_ | refine WC.condT rfl ?_ | refine WC.condF rfl ?_ | refine WL.off rfl rfl rfl ?_ | refine WL.off0 rfl rfl ?_ | refine WC.exit ?_ | refine blk_hit ?_ | refine blk_miss rfl ?_ | refine WC.ret ?_)
  refine WL.call rfl rfl rfl rfl rfl ent42 (free_any ga cap g.length _ _ (ap g) w1 (hT.below hp1.below) hg.len ent64 ?_) ?_
  · intro w2 hb2 u v hu hv
    have hp2 := hp1.call hb2
    exact apart1_any ga cap g bg w2 (hs.hp hp2) hg (hp2.obj 0 rfl) u v hu
  rintro _ w2 ⟨b, hp2, rfl⟩
  repeat (first | refine WC.seq ?_ | refine WC.reg ?_ | refine WL.pure rfl rfl rfl ?_ | refine WL.nil ?_ | refine WC.skip ?_ | refine WC.block ?_ | refine WC.condT rfl ?_ | refine WC.condF rfl ?_ | refine WL.off rfl rfl rfl ?_ | refine WL.off0 rfl rfl ?_ | refine WC.exit ?_ | refine blk_hit ?_ | refine blk_miss rfl ?_ | refine WC.ret ?_)
  exact Res.one rfl rfl rfl ⟨b, (hp1.comb hp2).pick [0] (by decide), rfl⟩

/-- What 'Apart' hands back. -/
def apV (n : Int) (es : List Ed) : Value := match mkG n es with
  | none => .tuple #[.int .i64 0, .int .i64 0, .int .i64 2]
  | some g => .tuple #[.int .i64 (apR (ap g) (2 ^ g.length)).1, .int .i64 (apR (ap g) (2 ^ g.length)).2, .int .i64 0]

theorem Apart_any (ea : Option Addr) (cap : Nat) (n : Int) (es : List Ed) (w : World) (hs : Sl w ea (prs es)) (hlen : es.length ≤ 4611686018427387904) (hT : Tb w) :
    Ret Tryd.prog 16 [.int .i64 n, .slice ea es.length cap] w fun v w' => Hp w w' [] ∧ v = apV n es := by
  refine enter Tryd.func16 rfl rfl ⟨rfl, rfl⟩ rfl ?_
  repeat (first | refine WC.seq ?_ | refine WC.reg ?_ | refine WL.pure rfl rfl rfl ?_ | refine WL.nil ?_ | refine WC.skip ?_ | refine WC.block ?_ | refine WC.condT rfl ?_ | refine WC.condF rfl ?_ | refine WL.off rfl rfl rfl ?_ | refine WL.off0 rfl rfl ?_ | refine WC.exit ?_ | refine blk_hit ?_ | refine blk_miss rfl ?_ | refine WC.ret ?_)
  refine WL.call rfl rfl rfl rfl rfl ent38 (newGraph_any ea cap n es w hs hlen) ?_
  intro v1 w1 hG
  cases hmk : mkG n es with
  | none =>
    obtain ⟨hp1, rfl⟩ := graph_none hG hmk
    repeat (first | refine WC.seq ?_ | refine WC.reg ?_ | refine WL.pure rfl rfl rfl ?_ | refine WL.nil ?_ | refine WC.skip ?_ | refine WC.block ?_ | refine WC.condT rfl ?_ | refine WC.condF rfl ?_ | refine WL.off rfl rfl rfl ?_ | refine WL.off0 rfl rfl ?_ | refine WC.exit ?_ | refine blk_hit ?_ | refine blk_miss rfl ?_ | refine WC.ret ?_)
    exact Res.three rfl rfl rfl rfl rfl ⟨hp1, by rw [apV, hmk]⟩
  | some g =>
    obtain ⟨hg, _, _, _, _⟩ := mkG_gr hmk
    have hn := hg.len
    have hp14 : 2 ^ g.length ≤ 2 ^ 14 := Nat.pow_le_pow_right (by decide) hn
    obtain ⟨bg, hp1, rfl⟩ := graph_hp hG hmk
    repeat (first | refine WC.seq ?_ | refine WC.reg ?_ | refine WL.pure rfl rfl rfl ?_ | refine WL.nil ?_ | refine WC.skip ?_ | refine WC.block ?_ | refine WC.condT rfl ?_ | refine WC.condF rfl ?_ | refine WL.off rfl rfl rfl ?_ | refine WL.off0 rfl rfl ?_ | refine WC.exit ?_ | refine blk_hit ?_ | refine blk_miss rfl ?_ | refine WC.ret ?_)
    refine WL.call rfl rfl rfl rfl rfl ent40 (apart_any _ _ g w1 (Sl.of_obj (hp1.obj 0 rfl) (fun i u h => by simpa using h)) (hT.below hp1.below) hg) ?_
    rintro _ w2 ⟨b, hp2, rfl⟩
    have hp2 := hp1.comb hp2
    repeat (first | refine WC.seq ?_ | refine WC.reg ?_ | refine WL.pure rfl rfl rfl ?_ | refine WL.nil ?_ | refine WC.skip ?_ | refine WC.block ?_ | refine WC.condT rfl ?_ | refine WC.condF rfl ?_ | refine WL.off rfl rfl rfl ?_ | refine WL.off0 rfl rfl ?_ | refine WC.exit ?_ | refine blk_hit ?_ | refine blk_miss rfl ?_ | refine WC.ret ?_)
    refine WC.loop (Nat × Nat × Nat) (fun (i, c, m) => [(9, .int .i64 (c : Nat)), (10, .int .i64 (m : Nat)), (22, .slice (some ⟨b, 0, none⟩) (2 ^ g.length) (2 ^ g.length)), (23, .int .i64 (2 ^ g.length : Nat)), (24, .int .i64 (i : Nat))])
      (fun (i, c, m) w' => i ≤ 2 ^ g.length ∧ (c, m) = apR (ap g) i ∧ Hp w w' [.blk b (.cells (bls (frRow (ap g) g.length (2 ^ g.length))).toArray 4 (0, 0)), .blk bg (.cells (ints g).toArray 76 (0, 0))]) (fun (i, c, m) => 2 ^ g.length - i) (0, 0, 0)
      ⟨rfl, rfl, rfl, rfl, rfl, rfl⟩ ⟨Nat.zero_le _, rfl, hp2⟩ ?_
    rintro ⟨i, c, m⟩ w3 ⟨hi, hcm, hp3⟩
    have hci : c ≤ i := by have := apR_le (ap g) i; rw [← hcm] at this; exact this
    repeat (first | refine WC.seq ?_ | refine WC.reg ?_ | refine WL.pure rfl rfl rfl ?_ | refine WL.nil ?_ | refine WC.skip ?_ | refine WC.block ?_ | refine WC.condT rfl ?_ | refine WC.condF rfl ?_ | refine WL.off rfl rfl rfl ?_ | refine WL.off0 rfl rfl ?_ | refine WC.exit ?_ | refine blk_hit ?_ | refine blk_miss rfl ?_ | refine WC.ret ?_)
    refine WC.cond rfl (fun hc => ?_) (fun hc => ?_)
    · have hi : i < 2 ^ g.length := by have := of_decide_eq_true hc; omega
      have step : IntKind.i64.wrap ((i : Int) + 1) = ((i + 1 : Nat) : Int) := by rw [wrap_i64_in (by omega) (by omega)]; omega
      have step2 : IntKind.i64.wrap ((c : Int) + 1) = ((c + 1 : Nat) : Int) := by rw [wrap_i64_in (by omega) (by omega)]; omega
      repeat (first | refine WC.seq ?_ | refine WC.reg ?_ | refine WL.pure rfl rfl rfl ?_ | refine WL.nil ?_ | refine WC.skip ?_ | refine WC.block ?_ | refine WC.condT rfl ?_ | refine WC.condF rfl ?_ | refine WL.off rfl rfl rfl ?_ | refine WL.off0 rfl rfl ?_ | refine WC.exit ?_ | refine blk_hit ?_ | refine blk_miss rfl ?_ | refine WC.ret ?_)
      refine WL.ixload rfl (fun _ => rfl) rfl rfl rfl rfl rfl rfl rfl hi rfl rfl (Sl.of_obj (hp3.obj 0 rfl) (cs := bls (frRow (ap g) g.length (2 ^ g.length))) (fun i u h => by simpa using h)) (v := .bool (fr (ap g) i)) (frRow_at hi hi) ?_
      intro p
      repeat (first | refine WC.seq ?_ | refine WC.reg ?_ | refine WL.pure rfl rfl rfl ?_ | refine WL.nil ?_ | refine WC.skip ?_ | refine WC.block ?_ | refine WC.condT rfl ?_ | refine WC.condF rfl ?_ | refine WL.off rfl rfl rfl ?_ | refine WL.off0 rfl rfl ?_ | refine WC.exit ?_ | refine blk_hit ?_ | refine blk_miss rfl ?_ | refine WC.ret ?_)
      refine WC.cond rfl (fun hf => ?_) (fun hf => ?_)
      · repeat (first | refine WC.seq ?_ | refine WC.reg ?_ | refine WL.pure rfl rfl rfl ?_ | refine WL.nil ?_ | refine WC.skip ?_ | refine WC.block ?_ | refine WC.condT rfl ?_ | refine WC.condF rfl ?_ | refine WL.off rfl rfl rfl ?_ | refine WL.off0 rfl rfl ?_ | refine WC.exit ?_ | refine blk_hit ?_ | refine blk_miss rfl ?_ | refine WC.ret ?_)
        refine WL.callP rfl rfl rfl rfl rfl ent41 (size_any i (by omega) _) ?_
        repeat (first | refine WC.seq ?_ | refine WC.reg ?_ | refine WL.pure rfl rfl rfl ?_ | refine WL.nil ?_ | refine WC.skip ?_ | refine WC.block ?_ | refine WC.condT rfl ?_ | refine WC.condF rfl ?_ | refine WL.off rfl rfl rfl ?_ | refine WL.off0 rfl rfl ?_ | refine WC.exit ?_ | refine blk_hit ?_ | refine blk_miss rfl ?_ | refine WC.ret ?_)
        refine ⟨(i + 1, c + 1, max m (pc i)), by show 2 ^ g.length - (i + 1) < 2 ^ g.length - i; omega, ⟨congrArg (fun z => some (Value.int .i64 z)) step2, congrArg (fun z => some (Value.int .i64 z)) (by omega), rfl, rfl, congrArg (fun z => some (Value.int .i64 z)) step, rfl⟩, by omega, ?_, hp3⟩
        rw [apR_succ, ← hcm, apStep, if_pos hf]
      · repeat (first | refine WC.seq ?_ | refine WC.reg ?_ | refine WL.pure rfl rfl rfl ?_ | refine WL.nil ?_ | refine WC.skip ?_ | refine WC.block ?_ | refine WC.condT rfl ?_ | refine WC.condF rfl ?_ | refine WL.off rfl rfl rfl ?_ | refine WL.off0 rfl rfl ?_ | refine WC.exit ?_ | refine blk_hit ?_ | refine blk_miss rfl ?_ | refine WC.ret ?_)
        refine ⟨(i + 1, c, m), by show 2 ^ g.length - (i + 1) < 2 ^ g.length - i; omega, ⟨rfl, rfl, rfl, rfl, congrArg (fun z => some (Value.int .i64 z)) step, rfl⟩, by omega, ?_, hp3⟩
        rw [apR_succ, ← hcm, apStep, if_neg (by rw [hf]; decide)]
    · have hi : i = 2 ^ g.length := by have := of_decide_eq_false hc; omega
      subst hi
      repeat (first | refine WC.seq ?_ | refine WC.reg ?_ | refine WL.pure rfl rfl rfl ?_ | refine WL.nil ?_ | refine WC.skip ?_ | refine WC.block ?_ | refine WC.condT rfl ?_ | refine WC.condF rfl ?_ | refine WL.off rfl rfl rfl ?_ | refine WL.off0 rfl rfl ?_ | refine WC.exit ?_ | refine blk_hit ?_ | refine blk_miss rfl ?_ | refine WC.ret ?_)
      refine Res.three rfl rfl rfl rfl rfl ⟨hp3.nil', ?_⟩
      simp only [apV, hmk, ← hcm]
end Go.Proofs.YtdnkkflpgebfbaaDoor
