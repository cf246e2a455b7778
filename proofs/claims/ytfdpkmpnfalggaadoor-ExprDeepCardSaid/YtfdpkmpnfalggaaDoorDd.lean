/- The four families of texts of ExprDeep. Plain definitions. -/
import Derived.Test.YtfdpkmpnfalggaaDoorRv
import Derived.Test.YtfdpkmpnfalggaaDoorPa
set_option linter.unusedVariables false
namespace Go.Proofs.YtfdpkmpnfalggaaDoor
open Go.RowKit

def repB (x : ByteArray) : Nat → ByteArray
  | 0 => ⟨#[]⟩
  | n + 1 => repB x n ++ x
def headP (q : Nat) : ByteArray := if q = 0 then (⟨#[40]⟩ : ByteArray) else if q = 1 then (⟨#[110, 111, 116, 32]⟩ : ByteArray) else if q = 2 then ⟨#[]⟩ else (⟨#[40, 49, 32, 42, 32]⟩ : ByteArray)
def tailQ (q : Nat) : ByteArray := if q = 0 then (⟨#[41]⟩ : ByteArray) else if q = 1 then ⟨#[]⟩ else if q = 2 then (⟨#[32, 43, 32, 49]⟩ : ByteArray) else (⟨#[41]⟩ : ByteArray)
def deepText (n q : Nat) : ByteArray := repB (headP q) n ++ (⟨#[97]⟩ : ByteArray) ++ repB (tailQ q) n
def wantE (n : Nat) : Int := if 39 < n then 4 else 0
def deepOk (n q : Nat) : Bool :=
  match tokensL (deepText n q).data.toList with
  | .ok l => decide (parE (exprP l 40 0) = wantE n)
  | .err _ => false
end Go.Proofs.YtfdpkmpnfalggaaDoor
