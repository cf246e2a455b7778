/- The tokens and the expression parser of chapter 10 as plain Lean functions, and what they keep to. Plain definitions and lemmas, no condition. -/
import Derived.Test.YtfdpkmpnfalggaaDoorRight
set_option linter.unusedVariables false
set_option linter.unusedSimpArgs false
namespace Go.Proofs.YtfdpkmpnfalggaaDoor
open Go.RowKit

structure Tok where
  kind : Int
  n : Int
  at_ : Int
  text : ByteArray
def Tok.zero : Tok := ⟨0, 0, 0, ByteArray.empty⟩
def Tok.d (t : Tok) : List D := [.i .i64 t.kind, .i .i64 t.n, .i .i64 t.at_, .s t.text]
def Tok.ds (l : List Tok) : List (List D) := l.map Tok.d
@[simp] theorem Tok.ds_length (l : List Tok) : (Tok.ds l).length = l.length := by simp [Tok.ds]
/-- Numbers of tokens are not below 0. -/
def TokOk (l : List Tok) : Prop := ∀ (i : Nat) (t : Tok), l[i]? = some t → 0 ≤ t.n

mutual
def Expr.depth : Expr → Nat
  | .mk _ _ _ kids => Expr.depths kids + 1
def Expr.depths : List Expr → Nat
  | [] => 0
  | x :: xs => max x.depth (Expr.depths xs)
end

/-- What a parser answers: something and the place behind it, or an error and its place. -/
inductive PR (α : Type) where
  | ok (a : α) (j : Nat)
  | err (e : Int) (j : Nat)

def nowT (L : List Tok) (i : Nat) : Tok := L.getD i Tok.zero
def isT (L : List Tok) (i : Nat) (s : ByteArray) : Bool := (decide ((nowT L i).kind = 4) || decide ((nowT L i).kind = 2)) && decide ((nowT L i).text = s)
def firstSign (L : List Tok) (i : Nat) : List Nat → Option Nat
  | [] => none
  | k :: ks => if isT L i (formText k) then some k else firstSign L i ks
def levelKinds (n : Nat) : List Nat := [[13], [12], [10, 11], [6, 7], [8, 9]].getD n []
def mkE (k : Nat) (kids : List Expr) (i : Nat) : PR Expr := if 40 < (Expr.mk k 0 ByteArray.empty kids).depth then .err 4 i else .ok (.mk k 0 ByteArray.empty kids) i
def loopL (L : List Tok) (sub : Nat → PR Expr) (lv : Nat) : Nat → Expr → Nat → PR Expr
  | 0, x, i => .ok x i
  | f + 1, x, i =>
    match firstSign L i (levelKinds lv) with
    | none => .ok x i
    | some k =>
      match sub (i + 1) with
      | .err e j => .err e j
      | .ok y j =>
        match mkE k [x, y] j with
        | .err e j => .err e j
        | .ok z j => if lv = 2 then .ok z j else loopL L sub lv f z j
/-- A level: n levels are left. -/
def levP (L : List Tok) (sg : Nat → PR Expr) : Nat → Nat → PR Expr
  | 0, i => sg i
  | n + 1, i =>
    match levP L sg n i with
    | .err e j => .err e j
    | .ok x j => loopL L (levP L sg n) (4 - n) (L.length + 1) x j
def twoP (L : List Tok) (sg : Nat → PR Expr) (k : Nat) (x : Expr) (i : Nat) : PR Expr :=
  if isT L i (⟨#[44]⟩ : ByteArray) then
    match levP L sg 5 (i + 1) with
    | .err e j => .err e j
    | .ok y j => if isT L j (⟨#[41]⟩ : ByteArray) then mkE k [x, y] (j + 1) else .err 2 j
  else .err 2 i
def leafE (k n : Int) (s : ByteArray) : Expr := .mk k n s []
def fstP (L : List Tok) (sg : Nat → PR Expr) (i : Nat) : PR Expr :=
  if (nowT L i).kind = 3 then .ok (leafE 0 (nowT L i).n ByteArray.empty) (i + 1)
  else if (nowT L i).kind = 1 then .ok (leafE 2 0 (nowT L i).text) (i + 1)
  else if isT L i (⟨#[116, 114, 117, 101]⟩ : ByteArray) then .ok (leafE 1 1 ByteArray.empty) (i + 1)
  else if isT L i (⟨#[102, 97, 108, 115, 101]⟩ : ByteArray) then .ok (leafE 1 0 ByteArray.empty) (i + 1)
  else if isT L i (⟨#[39]⟩ : ByteArray) then (if (nowT L (i + 1)).kind = 1 then .ok (leafE 3 0 (nowT L (i + 1)).text) (i + 2) else .err 2 (i + 1))
  else if isT L i (⟨#[115, 101, 108, 102]⟩ : ByteArray) then .ok (leafE 4 0 ByteArray.empty) (i + 1)
  else if isT L i (⟨#[116, 105, 109, 101]⟩ : ByteArray) then .ok (leafE 5 0 ByteArray.empty) (i + 1)
  else if isT L i (⟨#[102, 97, 114]⟩ : ByteArray) then
    (if isT L (i + 1) (⟨#[40]⟩ : ByteArray) then
      match levP L sg 5 (i + 2) with
      | .err e j => .err e j
      | .ok x j => twoP L sg 19 x j
    else .err 2 (i + 1))
  else if isT L i (⟨#[40]⟩ : ByteArray) then
    (match levP L sg 5 (i + 1) with
    | .err e j => .err e j
    | .ok x j => if isT L j (⟨#[44]⟩ : ByteArray) then twoP L sg 15 x j else if isT L j (⟨#[41]⟩ : ByteArray) then .ok x (j + 1) else .err 2 j)
  else .err 2 i
/-- A single: d more may stand within it, counted with itself. -/
def sglP (L : List Tok) : Nat → Nat → PR Expr
  | 0, i => .err 4 i
  | d + 1, i =>
    match firstSign L i [14, 16, 17, 18] with
    | some k =>
      match sglP L d (i + 1) with
      | .err e j => .err e j
      | .ok x j => mkE k [x] j
    | none =>
      if isT L i (⟨#[45]⟩ : ByteArray) then (if (nowT L (i + 1)).kind = 3 then .ok (leafE 0 (-(nowT L (i + 1)).n) ByteArray.empty) (i + 2) else .err 2 (i + 1))
      else fstP L (sglP L d) i
def exprP (L : List Tok) (d i : Nat) : PR Expr := levP L (sglP L d) 5 i

/-! ### Bounds -/
/-- The answer's place lies behind i (an error's: not ahead of it), and within the list. -/
def PR.Fits (L : List Tok) (i : Nat) : PR Expr → Prop
  | .ok _ j => i < j ∧ j ≤ L.length
  | .err e j => i ≤ j ∧ j ≤ L.length ∧ (e = 2 ∨ e = 4)
theorem nowT_lt {L : List Tok} {i : Nat} (h : (nowT L i).kind ≠ 0) : i < L.length := by
  rcases Nat.lt_or_ge i L.length with h1 | h1
  · exact h1
  · exact absurd (by unfold nowT; rw [List.getD_eq_getElem?_getD, List.getElem?_eq_none h1]; rfl) h
theorem isT_lt {L : List Tok} {i : Nat} {s : ByteArray} (h : isT L i s = true) : i < L.length := by
  refine nowT_lt fun h0 => ?_
  simp [isT, h0] at h
theorem firstSign_isT {L : List Tok} {i k : Nat} {ks : List Nat} (h : firstSign L i ks = some k) : k ∈ ks ∧ isT L i (formText k) = true := by
  induction ks with
  | nil => simp [firstSign] at h
  | cons a ks ih =>
    unfold firstSign at h
    split at h
    · rename_i ha; cases h; exact ⟨by simp, ha⟩
    · have := ih h; exact ⟨by simp [this.1], this.2⟩
theorem mkE_fits {L : List Tok} {i k j : Nat} {kids : List Expr} (h : i < j) (hj : j ≤ L.length) : (mkE k kids j).Fits L i := by
  unfold mkE; split
  · exact ⟨by omega, hj, Or.inr rfl⟩
  · exact ⟨h, hj⟩
theorem PR.Fits.back {L : List Tok} {i i' : Nat} {r : PR Expr} (h : r.Fits L i) (hi : i' ≤ i) : r.Fits L i' := by
  cases r with
  | ok a j => exact ⟨by have := h.1; omega, h.2⟩
  | err e j => exact ⟨by have := h.1; omega, h.2⟩
theorem loopL_fits {L : List Tok} {sub : Nat → PR Expr} {lv : Nat} (hs : ∀ i, i ≤ L.length → (sub i).Fits L i) : ∀ (f : Nat) (x : Expr) (i0 i : Nat), i0 < i → i ≤ L.length → (loopL L sub lv f x i).Fits L i0
  | 0, x, i0, i, h0, h1 => ⟨h0, h1⟩
  | f + 1, x, i0, i, h0, h1 => by
    unfold loopL
    cases hf : firstSign L i (levelKinds lv) with
    | none => exact ⟨h0, h1⟩
    | some k =>
      have hl : i < L.length := isT_lt (firstSign_isT hf).2
      have h2 := hs (i + 1) (by omega)
      simp only
      cases h3 : sub (i + 1) with
      | err e j => rw [h3] at h2; exact h2.back (by omega)
      | ok y j =>
        rw [h3] at h2
        have h4 : (mkE k [x, y] j).Fits L i := mkE_fits (by have := h2.1; omega) h2.2
        simp only
        cases h5 : mkE k [x, y] j with
        | err e j => rw [h5] at h4; exact h4.back (by omega)
        | ok z j' =>
          rw [h5] at h4
          simp only
          split
          · exact ⟨by have := h4.1; omega, h4.2⟩
          · exact loopL_fits hs f z i0 j' (by have := h4.1; omega) h4.2
theorem levP_fits {L : List Tok} {sg : Nat → PR Expr} (hs : ∀ i, i ≤ L.length → (sg i).Fits L i) : ∀ (n i : Nat), i ≤ L.length → (levP L sg n i).Fits L i
  | 0, i, h => hs i h
  | n + 1, i, h => by
    have h1 := levP_fits hs n i h
    unfold levP
    cases h2 : levP L sg n i with
    | err e j => rw [h2] at h1; exact h1
    | ok x j => rw [h2] at h1; exact loopL_fits (levP_fits hs n) _ _ _ _ h1.1 h1.2
theorem twoP_fits {L : List Tok} {sg : Nat → PR Expr} (hs : ∀ i, i ≤ L.length → (sg i).Fits L i) (k : Nat) (x : Expr) (i : Nat) (h : i ≤ L.length) : (twoP L sg k x i).Fits L i := by
  unfold twoP
  split
  · rename_i h0
    have hl := isT_lt h0
    have h1 := levP_fits hs 5 (i + 1) (by omega)
    split
    · rename_i h2; rw [h2] at h1; exact h1.back (by omega)
    · rename_i y j h2
      rw [h2] at h1
      split
      · rename_i h3; have := isT_lt h3; exact mkE_fits (by have := h1.1; omega) (by omega)
      · exact ⟨by have := h1.1; omega, h1.2, Or.inl rfl⟩
  · exact ⟨Nat.le_refl _, h, Or.inl rfl⟩
theorem fstP_fits {L : List Tok} {sg : Nat → PR Expr} (hs : ∀ i, i ≤ L.length → (sg i).Fits L i) (i : Nat) (h : i ≤ L.length) : (fstP L sg i).Fits L i := by
  unfold fstP
  have hn : ∀ j, (nowT L j).kind = 3 ∨ (nowT L j).kind = 1 → j < L.length := fun j hj => nowT_lt (by omega)
  have ht : ∀ j s, isT L j s = true → j < L.length := fun j s hj => isT_lt hj
  by_cases h1 : (nowT L i).kind = 3
  · rw [if_pos h1]; exact ⟨by omega, hn i (Or.inl h1)⟩
  rw [if_neg h1]; clear h1
  by_cases h1 : (nowT L i).kind = 1
  · rw [if_pos h1]; exact ⟨by omega, hn i (Or.inr h1)⟩
  rw [if_neg h1]; clear h1
  by_cases h1 : isT L i (⟨#[116, 114, 117, 101]⟩ : ByteArray) = true
  · rw [if_pos h1]; exact ⟨by omega, ht i _ h1⟩
  rw [if_neg h1]; clear h1
  by_cases h1 : isT L i (⟨#[102, 97, 108, 115, 101]⟩ : ByteArray) = true
  · rw [if_pos h1]; exact ⟨by omega, ht i _ h1⟩
  rw [if_neg h1]; clear h1
  by_cases h1 : isT L i (⟨#[39]⟩ : ByteArray) = true
  · rw [if_pos h1]
    have := ht i _ h1
    by_cases h2 : (nowT L (i + 1)).kind = 1
    · rw [if_pos h2]; exact ⟨by omega, hn (i + 1) (Or.inr h2)⟩
    · rw [if_neg h2]; exact ⟨by omega, by omega, Or.inl rfl⟩
  rw [if_neg h1]; clear h1
  by_cases h1 : isT L i (⟨#[115, 101, 108, 102]⟩ : ByteArray) = true
  · rw [if_pos h1]; exact ⟨by omega, ht i _ h1⟩
  rw [if_neg h1]; clear h1
  by_cases h1 : isT L i (⟨#[116, 105, 109, 101]⟩ : ByteArray) = true
  · rw [if_pos h1]; exact ⟨by omega, ht i _ h1⟩
  rw [if_neg h1]; clear h1
  by_cases h1 : isT L i (⟨#[102, 97, 114]⟩ : ByteArray) = true
  · rw [if_pos h1]
    have := ht i _ h1
    by_cases h2 : isT L (i + 1) (⟨#[40]⟩ : ByteArray) = true
    · rw [if_pos h2]
      have := ht _ _ h2
      have h3 := levP_fits hs 5 (i + 2) (by omega)
      cases h4 : levP L sg 5 (i + 2) with
      | err e j => rw [h4] at h3; exact h3.back (by omega)
      | ok x j => rw [h4] at h3; exact (twoP_fits hs 19 x j h3.2).back (by have := h3.1; omega)
    · rw [if_neg h2]; exact ⟨by omega, by omega, Or.inl rfl⟩
  rw [if_neg h1]; clear h1
  by_cases h1 : isT L i (⟨#[40]⟩ : ByteArray) = true
  · rw [if_pos h1]
    have := ht i _ h1
    have h3 := levP_fits hs 5 (i + 1) (by omega)
    cases h4 : levP L sg 5 (i + 1) with
    | err e j => rw [h4] at h3; exact h3.back (by omega)
    | ok x j =>
      rw [h4] at h3
      simp only
      by_cases h5 : isT L j (⟨#[44]⟩ : ByteArray) = true
      · rw [if_pos h5]; exact (twoP_fits hs 15 x j h3.2).back (by have := h3.1; omega)
      rw [if_neg h5]; clear h5
      by_cases h5 : isT L j (⟨#[41]⟩ : ByteArray) = true
      · rw [if_pos h5]; exact ⟨by have := h3.1; omega, ht _ _ h5⟩
      · rw [if_neg h5]; exact ⟨by have := h3.1; omega, h3.2, Or.inl rfl⟩
  rw [if_neg h1]
  exact ⟨Nat.le_refl _, h, Or.inl rfl⟩
theorem sglP_fits {L : List Tok} : ∀ (d i : Nat), i ≤ L.length → (sglP L d i).Fits L i
  | 0, i, h => ⟨Nat.le_refl _, h, Or.inr rfl⟩
  | d + 1, i, h => by
    unfold sglP
    cases hf : firstSign L i [14, 16, 17, 18] with
    | some k =>
      have hl : i < L.length := isT_lt (firstSign_isT hf).2
      have h2 := sglP_fits (L := L) d (i + 1) (by omega)
      simp only
      cases h3 : sglP L d (i + 1) with
      | err e j => rw [h3] at h2; exact h2.back (by omega)
      | ok x j => rw [h3] at h2; exact mkE_fits (by have := h2.1; omega) h2.2
    | none =>
      simp only
      split
      · rename_i h1
        have := isT_lt h1
        split
        · rename_i h2; exact ⟨by omega, nowT_lt (L := L) (i := i + 1) (by rw [h2]; decide)⟩
        · exact ⟨by omega, by omega, Or.inl rfl⟩
      · exact fstP_fits (fun i h => sglP_fits d i h) i h
theorem exprP_fits {L : List Tok} (d i : Nat) (h : i ≤ L.length) : (exprP L d i).Fits L i := levP_fits (sglP_fits d) 5 i h
end Go.Proofs.YtfdpkmpnfalggaaDoor
