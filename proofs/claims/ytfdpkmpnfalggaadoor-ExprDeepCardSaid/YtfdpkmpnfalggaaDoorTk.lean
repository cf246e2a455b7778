/- Chapter 9: the parting of a text into tokens as plain Lean functions over lists of bytes. Plain definitions and lemmas, no condition. -/
import Derived.Test.YtfdpkmpnfalggaaDoorPe
set_option linter.unusedVariables false
set_option linter.unusedSimpArgs false
namespace Go.Proofs.YtfdpkmpnfalggaaDoor
open Go.RowKit

abbrev Bs := List UInt8
def blankB (c : UInt8) : Bool := c == 32 || c == 9 || c == 10 || c == 13
/-- How many bytes stand between tokens, from the first on; q: within a remark? -/
def skipL : Bool → Bs → Nat
  | _, [] => 0
  | true, c :: r => if c == 10 then skipL false r + 1 else skipL true r + 1
  | false, c :: r => if blankB c then skipL false r + 1 else if c == 47 && r.head? == some 47 then skipL true r + 1 else 0
theorem skipL_le : ∀ (q : Bool) (r : Bs), skipL q r ≤ r.length
  | _, [] => by cases ‹Bool› <;> simp [skipL]
  | true, c :: r => by
    have h1 := skipL_le false r
    have h2 := skipL_le true r
    unfold skipL; split <;> simp <;> omega
  | false, c :: r => by
    have h1 := skipL_le false r
    have h2 := skipL_le true r
    unfold skipL; split
    · simp; omega
    · split <;> simp; omega
def digitC (c : UInt8) : Bool := decide (48 ≤ c.toNat) && decide (c.toNat ≤ 57)
def goesC (c : UInt8) : Bool := goesB c.toNat
def runL (r : Bs) : Nat := (r.takeWhile goesC).length
/-- The number of digits, ahead of which n was read; none: there is none, or it is too great. -/
def numL : Nat → Bs → Option Nat
  | n, [] => some n
  | n, c :: r => if digitC c && decide (n ≤ (9223372036854775807 - (c.toNat - 48)) / 10) then numL (10 * n + (c.toNat - 48)) r else none
def signTexts : List ByteArray := [(⟨#[58, 61]⟩ : ByteArray), (⟨#[60, 61]⟩ : ByteArray), (⟨#[62, 61]⟩ : ByteArray), (⟨#[61, 61]⟩ : ByteArray), (⟨#[123]⟩ : ByteArray), (⟨#[125]⟩ : ByteArray), (⟨#[40]⟩ : ByteArray), (⟨#[41]⟩ : ByteArray), (⟨#[59]⟩ : ByteArray), (⟨#[58]⟩ : ByteArray), (⟨#[61]⟩ : ByteArray), (⟨#[60]⟩ : ByteArray), (⟨#[43]⟩ : ByteArray), (⟨#[45]⟩ : ByteArray), (⟨#[42]⟩ : ByteArray), (⟨#[47]⟩ : ByteArray), (⟨#[44]⟩ : ByteArray), (⟨#[39]⟩ : ByteArray)]
def prefixB (s : ByteArray) (r : Bs) : Bool := s.data.toList.isPrefixOf r
structure Raw where
  kind : Int
  n : Nat
  text : ByteArray
  len : Nat
def signL (r : Bs) : Option Raw := (signTexts.find? fun s => prefixB s r).map fun s => ⟨4, 0, s, s.size⟩
def wordL (r : Bs) : ByteArray := ⟨(r.take (runL r)).toArray⟩
/-- The token that a text begins with. -/
def oneL (r : Bs) : Option Raw :=
  match r with
  | [] => none
  | c :: _ =>
    if digitC c then
      (if c == 48 && decide (1 < runL r) then none else (numL 0 (r.take (runL r))).map fun n => ⟨3, n, ByteArray.empty, runL r⟩)
    else if letterB c.toNat then
      (if isWordB (wordL r) then some ⟨2, 0, wordL r, runL r⟩ else if runL r ≤ 24 then some ⟨1, 0, wordL r, runL r⟩ else none)
    else signL r
/-- Tokens of a text, or the place of an error. -/
inductive TR where
  | ok (l : List Tok)
  | err (at_ : Nat)
def TR.cons (t : Tok) : TR → TR
  | .ok l => .ok (t :: l)
  | .err a => .err a
def Raw.tok (x : Raw) (i : Nat) : Tok := ⟨x.kind, x.n, i, x.text⟩
def endTok (i : Nat) : Tok := ⟨0, 0, i, ByteArray.empty⟩
/-- i: the place of r in the text; r begins with a token, or is empty. -/
def toksL : Nat → Nat → Bs → TR
  | 0, i, _ => .ok [endTok i]
  | f + 1, i, r =>
    if r.isEmpty then .ok [endTok i]
    else match oneL r with
      | none => .err i
      | some x => (toksL f (i + x.len + skipL false (r.drop x.len)) (r.drop (x.len + skipL false (r.drop x.len)))).cons (x.tok i)
def tokensL (r : Bs) : TR := toksL r.length (skipL false r) (r.drop (skipL false r))
end Go.Proofs.YtfdpkmpnfalggaaDoor
