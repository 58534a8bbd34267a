/- what bytes are read as. Plain. -/
import Derived.Test.YtgfingdopelinaaScT
namespace Go.Proofs.Ytgfingdopelinaa
set_option linter.unusedSimpArgs false
set_option linter.unusedVariables false
open Go.RowKit Go.Deep

def rtops : Nat → List Nat × Bool → List Nat × (List Nat × Bool)
  | 0, r => ([], r)
  | k + 1, r => ((rsmall 2147483648 r).1 :: (rtops k (rsmall 2147483648 r).2).1, (rtops k (rsmall 2147483648 r).2).2)
def rents : Nat → List Nat × Bool → List En × (List Nat × Bool)
  | 0, r => ([], r)
  | k + 1, r => if r.2 then ([], r) else ((rentry r).1 :: (rents k (rentry r).2).1, (rents k (rentry r).2).2)
def rdA (bs : List Nat) := rsmall 64 (bs, false)
def rdT0 (bs : List Nat) := rsmall 4 (rdA bs).2
def rdT (bs : List Nat) := rtops (rdT0 bs).1 (rdT0 bs).2
def rdW (bs : List Nat) := rsmall 8 (rdT bs).2
def rdB (bs : List Nat) := rsmall 1024 (rdW bs).2
def rdS (bs : List Nat) := rnum (rdB bs).2
def rdM (bs : List Nat) := rsmall 65536 (rdS bs).2
def rdE (bs : List Nat) := rents (rdM bs).1 (rdM bs).2
def toInts (l : List Nat) : List Int := l.map fun x : Nat => (x : Int)
def rdOk (bs : List Nat) : Bool := !(rdE bs).2.2 && (rdE bs).2.1.isEmpty && decide ((rdS bs).1 < 9223372036854775808) && confB ((rdA bs).1 : Nat) ((rdW bs).1 : Nat) ((rdB bs).1 : Nat) ((rdS bs).1 : Nat) (toInts (rdT bs).1)

end Go.Proofs.Ytgfingdopelinaa
