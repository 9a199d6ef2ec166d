/- Formulas in plain words: their words, their parts, what is read out of a string. -/
import Derived.Test.YtpbbneclkhfgoaaDoorSW
namespace Go.Ltl
open Go.W
def wTrue : Str := [116, 114, 117, 101]
def wFalse : Str := [102, 97, 108, 115, 101]
def wNot : Str := [110, 111, 116]
def wNext : Str := [110, 101, 120, 116]
def wAlways : Str := [97, 108, 119, 97, 121, 115]
def wFinally : Str := [102, 105, 110, 97, 108, 108, 121]
def wAnd : Str := [97, 110, 100]
def wOr : Str := [111, 114]
def wUntil : Str := [117, 110, 116, 105, 108]
def wRelease : Str := [114, 101, 108, 101, 97, 115, 101]
def atomsL : List Str := [wTrue, wFalse, [112, 48], [112, 49], [112, 50], [112, 51]]
def onesL : List Str := [wNot, wNext, wAlways, wFinally]
def twosL : List Str := [wAnd, wOr, wUntil, wRelease]
/-- A formula. -/
inductive Fm where
  | at_ (w : Str)
  | on_ (w : Str) (f : Fm)
  | tw_ (w : Str) (f g : Fm)
/-- The words and parentheses of a string: what is open so far, and the rest. -/
def flush (cur : Str) : List Str := if cur = [] then [] else [cur]
def tokN : Str → Str → List Str
  | [], cur => flush cur
  | c :: s, cur => if c = 32 ∨ c = 10 then flush cur ++ tokN s []
    else if c = 40 ∨ c = 41 then flush cur ++ ([c] :: tokN s [])
    else tokN s (cur ++ [c])
def tokM (s : Str) : List Str := tokN s []
/-- A formula read from words: at most as many calls as n; the words left, and how many words were counted. -/
def prsN : Nat → List Str → Nat → Option (Fm × List Str × Nat)
  | 0, _, _ => none
  | _ + 1, [], _ => none
  | n + 1, s :: l, k => if s ≠ [40] then
      if 12 < k + 1 then none else if s ∈ atomsL then some (.at_ s, l, k + 1) else none
    else match l with
      | [] => none
      | s :: l => if 12 < k + 1 then none
        else if s ∈ onesL then match prsN n l (k + 1) with
          | some (f, [41] :: l, k) => some (.on_ s f, l, k)
          | _ => none
        else if s ∈ twosL then match prsN n l (k + 1) with
          | some (f, l, k) => match prsN n l k with
            | some (g, [41] :: l, k) => some (.tw_ s f g, l, k)
            | _ => none
          | none => none
        else none
def parseM (s : Str) : Option Fm := match prsN ((tokM s).length + 1) (tokM s) 0 with
  | some (f, [], _) => some f
  | _ => none
def sizeF : Fm → Nat
  | .at_ _ => 1
  | .on_ _ f => 1 + sizeF f
  | .tw_ _ f g => 1 + sizeF f + sizeF g
def textF : Fm → Str
  | .at_ w => w
  | .on_ w f => [40] ++ w ++ [32] ++ textF f ++ [41]
  | .tw_ w f g => [40] ++ w ++ [32] ++ textF f ++ [32] ++ textF g ++ [41]
def dualL : List (Str × Str) := [(wTrue, wFalse), (wFalse, wTrue), (wAnd, wOr), (wOr, wAnd), (wUntil, wRelease), (wRelease, wUntil), (wAlways, wFinally), (wFinally, wAlways), (wNext, wNext)]
def dualM (w : Str) : Option Str := (dualL.find? fun p => p.1 = w).map (·.2)
def nameM (c : Bool) (w : Str) : Str := if c then (dualM w).getD [] else w
def pushM : Fm → Bool → Fm
  | .on_ w f, c => if w = wNot then pushM f (!c) else .on_ (nameM c w) (pushM f c)
  | .tw_ w f g, c => .tw_ (nameM c w) (pushM f c) (pushM g c)
  | .at_ w, c => if (dualM w).isSome then .at_ (nameM c w) else if c then .on_ wNot (.at_ w) else .at_ w
example : (parseM [40, 110, 111, 116, 32, 40, 117, 110, 116, 105, 108, 32, 112, 48, 32, 40, 110, 111, 116, 32, 112, 49, 41, 41, 41]).map (fun f => textF (pushM f false)) = some [40, 114, 101, 108, 101, 97, 115, 101, 32, 40, 110, 111, 116, 32, 112, 48, 41, 32, 112, 49, 41] := by decide +kernel
end Go.Ltl
