/- ltl, twenty-eighth: awake. -/
import Derived.Test.YtpbbneclkhfgoaaDoorU27
namespace Go.Proofs.YtpbbneclkhfgoaaDoor
open Go.W Go.Ltl Go.RowKit
set_option maxRecDepth 100000
attribute [local irreducible] WC WL WQ WS WH

def awA : Str := [40, 97, 108, 119, 97, 121, 115, 32, 112, 48, 41]
def awB : Str := [40, 102, 105, 110, 97, 108, 108, 121, 32, 112, 49, 41]
def awC : Str := [40, 110, 111, 116, 32, 40, 117, 110, 116, 105, 108, 32, 112, 48, 32, 40, 110, 111, 116, 32, 112, 49, 41, 41, 41]
def awD : Str := [40, 110, 101, 120, 116, 32, 112, 48, 41]
def awE : Str := [40, 114, 101, 108, 101, 97, 115, 101, 32, 40, 110, 111, 116, 32, 112, 48, 41, 32, 112, 49, 41]
theorem awA_is : (parseM awA).map (fun f => srchM 100 100 [[0]] [1] (pushM f true) 1) = some (some none) := by decide +kernel
theorem awB_is : (parseM awB).map (fun f => (srchM 100 100 [[0]] [1] (pushM f true) 1).map fun r => r.map fun q => (q.1.length, q.2.length)) = some (some (some (1, 1))) := by decide +kernel
theorem awC_is : PushM awC = .tuple #[st awE, .int .i64 0] := by kernel_rfl
theorem awD_is : ValueM [0] [1] awD = (true, 0) := by decide +kernel
/-- The two questions that awake asks of Holds. -/
theorem awA_run (w : World) (an am ra : Option Addr) (v : Value) (w' : World) (h : HoldsR 100 100 [(ra, 1, [0])] [1] awA w v w') : v = .tuple #[.agg #[.bool true, .slice none 0 0, .slice none 0 0], .int .i64 0] ∧ Hp w w' [] := by
  have hs : strB [(ra, 1, [0])] [1] = true := rfl
  unfold HoldsR at h
  rw [hs, if_pos rfl] at h
  obtain ⟨f, hf, hr⟩ := Option.map_eq_some_iff.1 awA_is
  rw [hf] at h
  obtain ⟨r, u, h1, rfl, h2⟩ := h
  have h1' : srchM 100 100 [[0]] [1] (pushM f true) 1 = some r := h1
  rw [hr] at h1'
  simp only [Option.some.injEq] at h1'
  subst h1'
  obtain ⟨rfl, hp⟩ := h2
  exact ⟨rfl, hp⟩
theorem awB_run (w : World) (an am ra : Option Addr) (v : Value) (w' : World) (h : HoldsR 100 100 [(ra, 1, [0])] [1] awB w v w') : ∃ sa sc pa pc, v = .tuple #[.agg #[.bool false, .slice sa 1 sc, .slice pa 1 pc], .int .i64 0] ∧ Hp w w' [] := by
  have hs : strB [(ra, 1, [0])] [1] = true := rfl
  unfold HoldsR at h
  rw [hs, if_pos rfl] at h
  obtain ⟨f, hf, hr⟩ := Option.map_eq_some_iff.1 awB_is
  rw [hf] at h
  obtain ⟨r, u, h1, rfl, h2⟩ := h
  have h1' : srchM 100 100 [[0]] [1] (pushM f true) 1 = some r := h1
  rw [h1'] at hr
  simp only [Option.map_some, Option.some.injEq] at hr
  cases r with
  | none => cases hr
  | some q =>
    obtain ⟨stem, loop⟩ := q
    simp only [Option.map_some, Option.some.injEq, Prod.mk.injEq] at hr
    obtain ⟨sa, sc, pa, pc, rfl, hp⟩ := h2
    exact ⟨sa, sc, pa, pc, by rw [hr.1, hr.2], hp.nil'⟩
theorem awake_any (w : World) (hGl : Gl w) : Ret Tryd.prog 20 [] w fun v w' => v = .bool true ∧ Hp w w' [] := by
  refine enter Tryd.func20 rfl rfl ⟨rfl, rfl⟩ rfl ?_
  repeat (first | refine WC.seq ?_ | refine WC.reg ?_ | refine WL.pure rfl rfl rfl ?_ | refine WL.nil ?_ | refine WC.skip ?_ | refine WC.block ?_ | refine WC.condT rfl ?_ | refine WC.condF rfl ?_ | refine WL.off rfl rfl rfl ?_ | refine WL.off0 rfl rfl ?_ | refine WC.exit ?_ | refine blk_hit ?_ | refine blk_miss rfl ?_ | refine WC.ret ?_)
  refine WL.buildS (cs := [.int .i64 0]) rfl rfl rfl rfl rfl rfl rfl rfl rfl (fun b1 w1 h1 => ?_)
  have hp1 := (Hp.start w).new h1
  refine WL.buildS (cs := [.slice (some ⟨b1, 0, none⟩) 1 1]) rfl rfl rfl rfl rfl rfl rfl rfl rfl (fun b2 w2 h2 => ?_)
  have hp2 := hp1.new h2
  refine WL.buildS (cs := [.int .i64 1]) rfl rfl rfl rfl rfl rfl rfl rfl rfl (fun b3 w3 h3 => ?_)
  have hp3 := hp2.new h3
  refine WL.buildT (cs := [.slice (some ⟨b2, 0, none⟩) 1 1, .slice (some ⟨b3, 0, none⟩) 1 1]) rfl rfl rfl rfl rfl rfl ?_
  refine WL.alloc rfl rfl rfl (fun b4 w4 h4 => ?_)
  have hp4 := hp3.new h4
  refine WL.storeN rfl rfl rfl rfl rfl (by simp [Value.oneCell']) (hp4.obj 0 rfl) (Nat.le_refl _) rfl (fun w5 h5 => ?_)
  have hp5 : Hp w w5 [Sb b4 (some ⟨b2, 0, none⟩) 1 (some ⟨b3, 0, none⟩) 1 [(some ⟨b1, 0, none⟩, 1, [0])] [1], .blk b3 (.cells #[.int .i64 1] 3 (0, 0)), .blk b2 (.cells #[.slice (some ⟨b1, 0, none⟩) 1 1] 22 (0, 0)), .blk b1 (.cells #[.int .i64 0] 3 (0, 0))] := hp4.set 0 rfl rfl h5
  have hst : ∀ {w' : World} {L : List Ent}, Hp w w' (Sb b4 (some ⟨b2, 0, none⟩) 1 (some ⟨b3, 0, none⟩) 1 [(some ⟨b1, 0, none⟩, 1, [0])] [1] :: .blk b3 (.cells #[.int .i64 1] 3 (0, 0)) :: .blk b2 (.cells #[.slice (some ⟨b1, 0, none⟩) 1 1] 22 (0, 0)) :: .blk b1 (.cells #[.int .i64 0] 3 (0, 0)) :: L) → Stc w' (some ⟨b2, 0, none⟩) (some ⟨b3, 0, none⟩) [(some ⟨b1, 0, none⟩, 1, [0])] [1] := by
    intro w' L hp
    refine ⟨Sl.of_obj (hp.obj 2 rfl) (fun q u hq => by simpa [catV] using hq), fun x hx => ?_, Sl.of_obj (hp.obj 1 rfl) (fun q u hq => by simpa [zs] using hq)⟩
    rw [List.mem_singleton.1 hx]
    exact Sl.of_obj (hp.obj 3 rfl) (fun q u hq => by simpa [zs] using hq)
  have hoA : StrOk [(some ⟨b1, 0, none⟩, 1, [0])] [1] → ∀ f, parseM awA = some f → (srchM 100 100 (nxOf [(some ⟨b1, 0, none⟩, 1, [0])]) [1] (pushM f true) 1).isSome = true := fun _ f hf => by
    obtain ⟨f', hf', hr⟩ := Option.map_eq_some_iff.1 awA_is
    rw [hf] at hf'
    simp only [Option.some.injEq] at hf'
    subst hf'
    rw [show nxOf [(some ⟨b1, 0, none⟩, 1, [0])] = [[0]] from rfl, hr]; rfl
  have hoB : StrOk [(some ⟨b1, 0, none⟩, 1, [0])] [1] → ∀ f, parseM awB = some f → (srchM 100 100 (nxOf [(some ⟨b1, 0, none⟩, 1, [0])]) [1] (pushM f true) 1).isSome = true := fun _ f hf => by
    obtain ⟨f', hf', hr⟩ := Option.map_eq_some_iff.1 awB_is
    rw [hf] at hf'
    simp only [Option.some.injEq] at hf'
    subst hf'
    obtain ⟨q, hq, _⟩ := Option.map_eq_some_iff.1 hr
    rw [show nxOf [(some ⟨b1, 0, none⟩, 1, [0])] = [[0]] from rfl, hq]; rfl
  have hrows : ∀ x ∈ ([(some ⟨b1, 0, none⟩, 1, [0])] : Vs), x.2.2.length ≤ 1000000 := fun x hx => by rw [List.mem_singleton.1 hx]; show 1 ≤ 1000000; decide
  clear hp1 hp2 hp3 hp4
  repeat (first | refine WC.seq ?_ | refine WC.reg ?_ | refine WL.pure rfl rfl rfl ?_ | refine WL.nil ?_ | refine WC.skip ?_ | refine WC.block ?_ | refine WC.condT rfl ?_ | refine WC.condF rfl ?_ | refine WL.off rfl rfl rfl ?_ | refine WL.off0 rfl rfl ?_ | refine WC.exit ?_ | refine blk_hit ?_ | refine blk_miss rfl ?_ | refine WC.ret ?_)
  refine WL.loadN rfl rfl rfl rfl rfl (cs := [.slice (some ⟨b2, 0, none⟩) 1 1, .slice (some ⟨b3, 0, none⟩) 1 1]) rfl (fun q v hq => cell_of_obj (hp5.obj 0 rfl) (by rw [Nat.zero_add]; simpa using hq)) ?_
  refine WL.call rfl rfl rfl rfl rfl ent26 (Holds_any (some ⟨b2, 0, none⟩) 1 (some ⟨b3, 0, none⟩) 1 [(some ⟨b1, 0, none⟩, 1, [0])] [1] (by decide) hrows awA (by decide) 100 100 (by decide) (by decide) hoA w5 (hGl.hp hp5) (hst hp5)) ?_
  intro v w6 hv
  obtain ⟨rfl, hp6⟩ := awA_run w5 none none _ v w6 hv
  have hp6 := hp5.call hp6.below
  clear hp5
  repeat (first | refine WC.seq ?_ | refine WC.reg ?_ | refine WL.pure rfl rfl rfl ?_ | refine WL.nil ?_ | refine WC.skip ?_ | refine WC.block ?_ | refine WC.condT rfl ?_ | refine WC.condF rfl ?_ | refine WL.off rfl rfl rfl ?_ | refine WL.off0 rfl rfl ?_ | refine WC.exit ?_ | refine blk_hit ?_ | refine blk_miss rfl ?_ | refine WC.ret ?_)
  refine WL.alloc rfl rfl rfl (fun b7 w7 h7 => ?_)
  have hp7 := hp6.new h7
  refine WL.storeN rfl rfl rfl rfl rfl (by simp [Value.oneCell']) (hp7.obj 0 rfl) (Nat.le_refl _) rfl (fun w8 h8 => ?_)
  have hp8 := (hp7.set 0 rfl rfl h8).pick [1, 2, 3, 4, 0] (by decide)
  clear hp7 hp6
  repeat (first | refine WC.seq ?_ | refine WC.reg ?_ | refine WL.pure rfl rfl rfl ?_ | refine WL.nil ?_ | refine WC.skip ?_ | refine WC.block ?_ | refine WC.condT rfl ?_ | refine WC.condF rfl ?_ | refine WL.off rfl rfl rfl ?_ | refine WL.off0 rfl rfl ?_ | refine WC.exit ?_ | refine blk_hit ?_ | refine blk_miss rfl ?_ | refine WC.ret ?_)
  refine WL.loadN rfl rfl rfl rfl rfl (cs := [.slice (some ⟨b2, 0, none⟩) 1 1, .slice (some ⟨b3, 0, none⟩) 1 1]) rfl (fun q v hq => cell_of_obj (hp8.obj 0 rfl) (by rw [Nat.zero_add]; simpa using hq)) ?_
  refine WL.call rfl rfl rfl rfl rfl ent26 (Holds_any (some ⟨b2, 0, none⟩) 1 (some ⟨b3, 0, none⟩) 1 [(some ⟨b1, 0, none⟩, 1, [0])] [1] (by decide) hrows awB (by decide) 100 100 (by decide) (by decide) hoB w8 (hGl.hp hp8) (hst hp8)) ?_
  intro v w9 hv
  obtain ⟨sa, sc, pa, pc, rfl, hp9⟩ := awB_run w8 none none _ v w9 hv
  have hp9 := hp8.call hp9.below
  clear hp8
  repeat (first | refine WC.seq ?_ | refine WC.reg ?_ | refine WL.pure rfl rfl rfl ?_ | refine WL.nil ?_ | refine WC.skip ?_ | refine WC.block ?_ | refine WC.condT rfl ?_ | refine WC.condF rfl ?_ | refine WL.off rfl rfl rfl ?_ | refine WL.off0 rfl rfl ?_ | refine WC.exit ?_ | refine blk_hit ?_ | refine blk_miss rfl ?_ | refine WC.ret ?_)
  refine WL.alloc rfl rfl rfl (fun b10 w10 h10 => ?_)
  have hp10 := hp9.new h10
  refine WL.storeN rfl rfl rfl rfl rfl (by simp [Value.oneCell']) (hp10.obj 0 rfl) (Nat.le_refl _) rfl (fun w11 h11 => ?_)
  have hp11 := (hp10.set 0 rfl rfl h11).pick [0, 5] (by decide)
  clear hp10 hp9
  repeat (first | refine WC.seq ?_ | refine WC.reg ?_ | refine WL.pure rfl rfl rfl ?_ | refine WL.nil ?_ | refine WC.skip ?_ | refine WC.block ?_ | refine WC.condT rfl ?_ | refine WC.condF rfl ?_ | refine WL.off rfl rfl rfl ?_ | refine WL.off0 rfl rfl ?_ | refine WC.exit ?_ | refine blk_hit ?_ | refine blk_miss rfl ?_ | refine WC.ret ?_)
  refine WL.call rfl rfl rfl rfl rfl ent22 (Push_any awC (by decide) w11 (hGl.hp hp11)) ?_
  rintro _ w12 ⟨rfl, hp12⟩
  have hp12 := hp11.call hp12.below
  rw [awC_is]
  clear hp11
  repeat (first | refine WC.seq ?_ | refine WC.reg ?_ | refine WL.pure rfl rfl rfl ?_ | refine WL.nil ?_ | refine WC.skip ?_ | refine WC.block ?_ | refine WC.condT rfl ?_ | refine WC.condF rfl ?_ | refine WL.off rfl rfl rfl ?_ | refine WL.off0 rfl rfl ?_ | refine WC.exit ?_ | refine blk_hit ?_ | refine blk_miss rfl ?_ | refine WC.ret ?_)
  refine WL.buildS (cs := [.int .i64 0]) rfl rfl rfl rfl rfl rfl rfl rfl rfl (fun b13 w13 h13 => ?_)
  have hp13 := hp12.new h13
  refine WL.buildS (cs := [.int .i64 1]) rfl rfl rfl rfl rfl rfl rfl rfl rfl (fun b14 w14 h14 => ?_)
  have hp14 := hp13.new h14
  refine WL.call rfl rfl rfl rfl rfl ent17 (Value_any (some ⟨b13, 0, none⟩) (some ⟨b14, 0, none⟩) 1 1 [0] [1] awD (by decide) (by decide) w14 (hGl.hp hp14) (Sl.of_obj (hp14.obj 1 rfl) (fun q u hq => by simpa [zs] using hq)) (Sl.of_obj (hp14.obj 0 rfl) (fun q u hq => by simpa [zs] using hq))) ?_
  rintro _ w15 ⟨rfl, hp15⟩
  have hp15 := hp14.call hp15.below
  rw [awD_is]
  clear hp14 hp13 hp12
  repeat (first | refine WC.seq ?_ | refine WC.reg ?_ | refine WL.pure rfl rfl rfl ?_ | refine WL.nil ?_ | refine WC.skip ?_ | refine WC.block ?_ | refine WC.condT rfl ?_ | refine WC.condF rfl ?_ | refine WL.off rfl rfl rfl ?_ | refine WL.off0 rfl rfl ?_ | refine WC.exit ?_ | refine blk_hit ?_ | refine blk_miss rfl ?_ | refine WC.ret ?_)
  refine WL.loadB rfl rfl rfl rfl rfl (hp15.obj 3 rfl) (j := 0) rfl ?_
  repeat (first | refine WC.seq ?_ | refine WC.reg ?_ | refine WL.pure rfl rfl rfl ?_ | refine WL.nil ?_ | refine WC.skip ?_ | refine WC.block ?_ | refine WC.condT rfl ?_ | refine WC.condF rfl ?_ | refine WL.off rfl rfl rfl ?_ | refine WL.off0 rfl rfl ?_ | refine WC.exit ?_ | refine blk_hit ?_ | refine blk_miss rfl ?_ | refine WC.ret ?_)
  refine WL.loadB rfl rfl rfl rfl rfl (hp15.obj 2 rfl) (j := 0) rfl ?_
  repeat (first | refine WC.seq ?_ | refine WC.reg ?_ | refine WL.pure rfl rfl rfl ?_ | refine WL.nil ?_ | refine WC.skip ?_ | refine WC.block ?_ | refine WC.condT rfl ?_ | refine WC.condF rfl ?_ | refine WL.off rfl rfl rfl ?_ | refine WL.off0 rfl rfl ?_ | refine WC.exit ?_ | refine blk_hit ?_ | refine blk_miss rfl ?_ | refine WC.ret ?_)
  refine WL.loadB rfl rfl rfl rfl rfl (hp15.obj 2 rfl) (j := 2) rfl ?_
  repeat (first | refine WC.seq ?_ | refine WC.reg ?_ | refine WL.pure rfl rfl rfl ?_ | refine WL.nil ?_ | refine WC.skip ?_ | refine WC.block ?_ | refine WC.condT rfl ?_ | refine WC.condF rfl ?_ | refine WL.off rfl rfl rfl ?_ | refine WL.off0 rfl rfl ?_ | refine WC.exit ?_ | refine blk_hit ?_ | refine blk_miss rfl ?_ | refine WC.ret ?_)
  refine WL.sCmp (a := awE) (b := awE) (op := .neq) (r := false) rfl rfl rfl rfl (by simp [cmpS]) ?_
  repeat (first | refine WC.seq ?_ | refine WC.reg ?_ | refine WL.pure rfl rfl rfl ?_ | refine WL.nil ?_ | refine WC.skip ?_ | refine WC.block ?_ | refine WC.condT rfl ?_ | refine WC.condF rfl ?_ | refine WL.off rfl rfl rfl ?_ | refine WL.off0 rfl rfl ?_ | refine WC.exit ?_ | refine blk_hit ?_ | refine blk_miss rfl ?_ | refine WC.ret ?_)
  exact Res.one rfl rfl rfl ⟨rfl, hp15.nil'⟩
end Go.Proofs.YtpbbneclkhfgoaaDoor
