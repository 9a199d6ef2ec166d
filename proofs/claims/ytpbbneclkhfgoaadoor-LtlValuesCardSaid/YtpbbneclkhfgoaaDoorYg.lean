/- The search for a run, in plain words: who follows whom, components, shortest ways, the lasso; with fuel (none: a panic, or out of fuel). -/
import Derived.Test.YtpbbneclkhfgoaaDoorYc
namespace Go.Ltl
open Go.W
/-- The states of the search that follow each one. -/
def graphM (nx : List (List Nat)) (pairs : Nat) (want : List Nat) : List (List Nat) :=
  (List.range want.length).map fun v => (nx.getD (v / pairs) []).flatMap fun t => (List.range want.length).filter fun u => u / pairs = t ∧ want.getD u 0 = v % pairs
/-- A state of the way of Tarjan; stack and path with the top first. -/
structure Tj where
  index : List Nat
  low : List Nat
  of_ : List Nat
  at_ : List Nat
  stk : List Nat
  path : List Nat
  count : Nat
  number : Nat
def tjEnter (s : Tj) (v : Nat) : Tj := if s.index.getD v 0 = 0 then { s with index := s.index.set v (s.count + 1), low := s.low.set v (s.count + 1), stk := v :: s.stk, count := s.count + 1 } else s
def tjNext (s : Tj) (v : Nat) : Tj := { s with at_ := s.at_.set v (s.at_.getD v 0 + 1) }
def tjGo (s : Tj) (v u : Nat) : Tj :=
  if s.index.getD u 0 = 0 then { s with path := u :: s.path }
  else if s.of_.getD u 0 = 0 then { s with low := s.low.set v (min (s.low.getD v 0) (s.index.getD u 0)) }
  else s
def tjUp (s : Tj) (v : Nat) : List Nat → Tj
  | [] => { s with path := [] }
  | up :: rest => { s with path := up :: rest, low := s.low.set up (min (s.low.getD up 0) (s.low.getD v 0)) }
def popM (v num : Nat) : List Nat → List Nat → Option (List Nat × List Nat)
  | [], of_ => if of_.getD v 0 = 0 then none else some ([], of_)
  | x :: r, of_ => if of_.getD v 0 = 0 then popM v num r (of_.set x num) else some (x :: r, of_)
def tjDone (s : Tj) (v : Nat) : Option Tj :=
  if s.low.getD v 0 = s.index.getD v 0 then match popM v (s.number + 1) s.stk s.of_ with
    | some (k, o) => some { s with stk := k, of_ := o, number := s.number + 1 }
    | none => none
  else some s
def tjTurn (next : List (List Nat)) (s : Tj) (v : Nat) (rest : List Nat) : Option Tj :=
  if s.at_.getD v 0 < (next.getD v []).length then some (tjGo (tjNext s v) v ((next.getD v []).getD (s.at_.getD v 0) 0))
  else tjDone (tjUp s v rest) v
def tjStep (next : List (List Nat)) (s : Tj) : Option Tj := match s.path with
  | [] => none
  | v :: rest => tjTurn next (tjEnter s v) v rest
def tjRun (next : List (List Nat)) : Nat → Tj → Option (Nat × Tj)
  | 0, s => if s.path = [] then some (0, s) else none
  | f + 1, s => if s.path = [] then some (f + 1, s) else match tjStep next s with
    | some s' => tjRun next f s'
    | none => none
/-- k roots are left. -/
def compRoots (next : List (List Nat)) : Nat → Nat → Nat → Tj → Option Tj
  | 0, _, _, s => some s
  | k + 1, root, f, s => if s.index.getD root 0 ≠ 0 then compRoots next k (root + 1) f s else match tjRun next f { s with path := [root] } with
    | some (f', s') => compRoots next k (root + 1) f' s'
    | none => none
def tj0 (n : Nat) : Tj := ⟨List.replicate n 0, List.replicate n 0, List.replicate n 0, List.replicate n 0, [], [], 0, 0⟩
def compM (F : Nat) (next : List (List Nat)) : Option (List Nat) := (compRoots next next.length 0 F (tj0 next.length)).map (·.of_)
/-- Who was before whom. -/
abbrev Bef := List (Nat × Int)
def lkB : Bef → Nat → Option Int
  | [], _ => none
  | p :: r, k => if k = p.1 then some p.2 else lkB r k
def addM (may : Nat → Bool) (par : Int) (s : Bef × List Nat) (u : Nat) : Bef × List Nat := if (lkB s.1 u).isNone && may u then (s.1 ++ [(u, par)], s.2 ++ [u]) else s
def backM (B : Bef) : Nat → Nat → List Nat → Option (List Nat)
  | 0, v, out => if 0 ≤ (lkB B v).getD 0 then none else some out
  | f + 1, v, out => if 0 ≤ (lkB B v).getD 0 then backM B f ((lkB B v).getD 0).toNat (((lkB B v).getD 0).toNat :: out) else some out
def wayGo (F : Nat) (next : List (List Nat)) (may fits : Nat → Bool) : Nat → Bef × List Nat → Option (Option (List Nat))
  | _, (_, []) => some none
  | 0, (_, _ :: _) => none
  | f + 1, (B, v :: q) => if fits v then (backM B F v [v]).map some else wayGo F next may fits f ((next.getD v []).foldl (addM may v) (B, q))
def wayM (F : Nat) (next : List (List Nat)) (start : List Nat) (may fits : Nat → Bool) : Option (Option (List Nat)) := wayGo F next may fits F (start.foldl (addM may (-1)) ([], []))
/-- What is not put off in a component, by the first m states, and whether it has an edge. -/
def fairC (of_ fair : List Nat) : Nat → Nat → Nat
  | 0, _ => 0
  | m + 1, c => if of_.getD m 0 = c then fairC of_ fair m c ||| fair.getD m 0 else fairC of_ fair m c
def turnC (of_ : List Nat) (next : List (List Nat)) : Nat → Nat → Bool
  | 0, _ => false
  | m + 1, c => if of_.getD m 0 = c then turnC of_ next m c || (next.getD m []).any (fun u => of_.getD u 0 = c) else turnC of_ next m c
def beginM (pairs starts : Nat) (truth : List Bool) : List Nat := (List.range (pairs * starts)).filter fun v => truth.getD v false
def seenM (fair : List Nat) (seen : Nat) (part : List Nat) : Nat := part.foldl (fun s v => s ||| fair.getD v 0) seen
def loopFits (fair : List Nat) (all home seen v : Nat) : Bool := decide (bd (fair.getD v 0) seen ≠ 0) || (decide (seen = all) && decide (v = home))
def loopM (F : Nat) (next : List (List Nat)) (of_ fair : List Nat) (all home : Nat) : Nat → Nat → Nat → List Nat → Option (List Nat)
  | 0, _, _, _ => none
  | f + 1, at_, seen, acc => match wayM F next (next.getD at_ []) (fun v => of_.getD v 0 = of_.getD home 0) (loopFits fair all home seen) with
    | some (some part) =>
      if seenM fair seen part = all ∧ part.getLastD 0 = home then some (acc ++ part)
      else loopM F next of_ fair all home f (part.getLastD 0) (seenM fair seen part) (acc ++ part)
    | _ => none
def stemFits (of_ fair : List Nat) (next : List (List Nat)) (all v : Nat) : Bool := turnC of_ next next.length (of_.getD v 0) && decide (fairC of_ fair next.length (of_.getD v 0) = all)
/-- The lasso of states of the search; none within: there is no run. -/
def runM (F G : Nat) (next : List (List Nat)) (pairs starts nl : Nat) (truth : List Bool) (fair : List Nat) : Option (Option (List Nat × List Nat)) :=
  match compM F next with
  | none => none
  | some of_ => match wayM G next (beginM pairs starts truth) (fun _ => true) (stemFits of_ fair next (2 ^ nl - 1)) with
    | none => none
    | some none => some none
    | some (some stem) => match loopM G next of_ fair (2 ^ nl - 1) (stem.getLastD 0) G (stem.getLastD 0) (fair.getD (stem.getLastD 0) 0) [] with
      | none => none
      | some loop => some (some (stem, loop))
end Go.Ltl
