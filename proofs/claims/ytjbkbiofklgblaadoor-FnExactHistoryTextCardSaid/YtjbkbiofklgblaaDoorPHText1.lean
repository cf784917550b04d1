/- Plain lemmas: what the functions compute is what the reference says, in plain Lean. No condition. -/
import Derived.Test.YtjbkbiofklgblaaDoorPSplit1
set_option maxRecDepth 4000
set_option maxHeartbeats 1000000
set_option linter.unusedVariables false
set_option linter.unusedSimpArgs false
set_option linter.unusedSectionVars false

namespace Go.Proofs.YtjbkbiofklgblaaDoor
open Go.AM

def numL (n : Nat) : List UInt8 := if n < 10 then [UInt8.ofNat (48 + n)] else numL (n / 10) ++ [UInt8.ofNat (48 + n % 10)]
termination_by n
decreasing_by omega
def joinC (c : UInt8) : List (List UInt8) → List UInt8
  | [] => []
  | [x] => x
  | x :: y :: l => x ++ c :: joinC c (y :: l)
def wordL (m : Int) : List UInt8 := if m = 0 then [110, 111, 110, 101] else if m = 1 then [100, 111, 119, 110] else if m = 2 then [101, 100, 103, 101] else [118, 111, 105, 100]
def revL : List UInt8 := [114, 101, 118, 105, 101, 119]
structure ChgL where
  t : Nat
  c : Nat
  i : Nat
  n : Nat
  m : Int
  r : Bool
def partsL (x : ChgL) : List (List UInt8) := [numL x.t, numL x.c, numL x.i, numL x.n, wordL x.m] ++ (if x.r then [revL] else [])
def lineL (x : ChgL) : List UInt8 := joinC 32 (partsL x)
def textL (h : List ChgL) : List UInt8 := (h.map fun x => lineL x ++ [10]).flatten

end Go.Proofs.YtjbkbiofklgblaaDoor
