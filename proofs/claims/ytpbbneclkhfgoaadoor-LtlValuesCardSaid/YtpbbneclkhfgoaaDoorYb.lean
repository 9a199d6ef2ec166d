/- The values of formulas on lassos, in plain words. -/
import Derived.Test.YtpbbneclkhfgoaaDoorYa
namespace Go.Ltl
open Go.W
def holdsM (w : Str) (m : Int) : Bool := if w = wTrue then true else if w = wFalse then false else decide (m / 2 ^ ((w.getD 1 48).toNat - 48) % 2 = 1)
/-- The position that follows. -/
def aft (n lp i : Nat) : Nat := if i + 1 < n then i + 1 else lp
/-- Once back from the last position. -/
def passM (f : Nat → Bool → Bool) (n lp : Nat) : Nat → List Bool → List Bool
  | 0, out => out
  | i + 1, out => passM f n lp i (out.set i (f i (out.getD (aft n lp i) false)))
def repM (last : Bool) (f : Nat → Bool → Bool) (n lp : Nat) : List Bool := passM f n lp n (passM f n lp n (List.replicate n last))
def onM (w : Str) (a : List Bool) (n lp : Nat) : List Bool :=
  if w = wNot then (List.range n).map fun i => !a.getD i false
  else if w = wNext then (List.range n).map fun i => a.getD (aft n lp i) false
  else if w = wAlways then repM true (fun i x => a.getD i false && x) n lp
  else if w = wFinally then repM false (fun i x => a.getD i false || x) n lp
  else List.replicate n false
def twM (w : Str) (a b : List Bool) (n lp : Nat) : List Bool :=
  if w = wAnd then (List.range n).map fun i => a.getD i false && b.getD i false
  else if w = wOr then (List.range n).map fun i => a.getD i false || b.getD i false
  else if w = wUntil then repM false (fun i x => b.getD i false || (a.getD i false && x)) n lp
  else if w = wRelease then repM true (fun i x => b.getD i false && (a.getD i false || x)) n lp
  else List.replicate n false
def valsM (ms : List Int) (lp : Nat) : Fm → List Bool
  | .at_ w => (List.range ms.length).map fun i => holdsM w (ms.getD i 0)
  | .on_ w f => onM w (valsM ms lp f) ms.length lp
  | .tw_ w f g => twM w (valsM ms lp f) (valsM ms lp g) ms.length lp
/-- Words of the right kinds. -/
def wfF : Fm → Prop
  | .at_ w => w ∈ atomsL
  | .on_ w f => w ∈ onesL ∧ wfF f
  | .tw_ w f g => w ∈ twosL ∧ wfF f ∧ wfF g
theorem passM_len (f : Nat → Bool → Bool) (n lp : Nat) : ∀ (i : Nat) (out : List Bool), (passM f n lp i out).length = out.length := by
  intro i
  induction i with
  | zero => intro out; rfl
  | succ i ih => intro out; rw [passM, ih, List.length_set]
theorem repM_len (last : Bool) (f : Nat → Bool → Bool) (n lp : Nat) : (repM last f n lp).length = n := by
  unfold repM
  rw [passM_len, passM_len, List.length_replicate]
theorem onM_len (w : Str) (a : List Bool) (n lp : Nat) : (onM w a n lp).length = n := by
  unfold onM
  repeat' split
  all_goals simp [repM_len]
theorem twM_len (w : Str) (a b : List Bool) (n lp : Nat) : (twM w a b n lp).length = n := by
  unfold twM
  repeat' split
  all_goals simp [repM_len]
theorem valsM_len (ms : List Int) (lp : Nat) : ∀ f, (valsM ms lp f).length = ms.length := by
  intro f
  cases f with
  | at_ w => simp [valsM]
  | on_ w f => exact onM_len _ _ _ _
  | tw_ w f g => exact twM_len _ _ _ _ _
end Go.Ltl
