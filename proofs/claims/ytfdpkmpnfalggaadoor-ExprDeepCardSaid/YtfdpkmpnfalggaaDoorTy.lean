/- The records of package api as Lean data, and what they read as. Plain definitions and lemmas. -/
import Derived.Test.YtfdpkmpnfalggaaDoorWd
set_option linter.unusedVariables false
namespace Go.Proofs.YtfdpkmpnfalggaaDoor
open Go.RowKit

inductive Expr where
  | mk (kind n : Int) (name : ByteArray) (kids : List Expr)
def Expr.kind : Expr → Int | .mk k _ _ _ => k
def Expr.n : Expr → Int | .mk _ n _ _ => n
def Expr.name : Expr → ByteArray | .mk _ _ s _ => s
def Expr.kids : Expr → List Expr | .mk _ _ _ l => l
mutual
def Expr.d : Expr → List D
  | .mk k n s kids => [.i .i64 k, .i .i64 n, .s s, .l 4 (Expr.ds kids)]
def Expr.ds : List Expr → List (List D)
  | [] => []
  | x :: xs => x.d :: Expr.ds xs
end
theorem Expr.ds_eq (l : List Expr) : Expr.ds l = l.map Expr.d := by
  induction l with
  | nil => rfl
  | cons x l ih => simp [Expr.ds, ih]
@[simp] theorem Expr.ds_length (l : List Expr) : (Expr.ds l).length = l.length := by rw [Expr.ds_eq]; simp
theorem Expr.d_eq (x : Expr) : x.d = [.i .i64 x.kind, .i .i64 x.n, .s x.name, .l 4 (Expr.ds x.kids)] := by cases x; rfl

theorem i64_bd {n : Int} (h : IntKind.i64.wrap n = n) : -9223372036854775808 ≤ n ∧ n ≤ 9223372036854775807 := by
  simp only [IntKind.wrap_i64] at h
  omega

/-- An expression of a row: its four cells, and its Kids. -/
theorem expr_at {S : Nat → Prop} {w : World} {l : List Expr} {A : Option Addr} {n c : Nat} (h : RdV S w (.l 4 (Expr.ds l)) (.slice A n c)) {k : Nat} (hk : k < l.length) :
    ∃ (b o : Nat) (A' : Option Addr) (c' : Nat), A = some ⟨b, o, none⟩ ∧ S b ∧ b < w.heap.size ∧ n = l.length ∧ w.cell? ⟨b, o + k * 4, none⟩ = some (.int .i64 l[k].kind) ∧ w.cell? ⟨b, o + k * 4 + 1, none⟩ = some (.int .i64 l[k].n) ∧
      w.cell? ⟨b, o + k * 4 + 2, none⟩ = some (.string l[k].name) ∧ w.cell? ⟨b, o + k * 4 + 3, none⟩ = some (.slice A' l[k].kids.length c') ∧
      RdV S w (.l 4 (Expr.ds l[k].kids)) (.slice A' l[k].kids.length c') ∧ l[k].name.size ≤ maxLen ∧ IntKind.i64.wrap l[k].kind = l[k].kind ∧ IntKind.i64.wrap l[k].n = l[k].n := by
  have hx : (Expr.ds l)[k]? = some l[k].d := by rw [Expr.ds_eq, List.getElem?_map, List.getElem?_eq_getElem hk]; rfl
  obtain ⟨b, o, f, rfl, hs, hn, hi, hc, hr⟩ := h.at_ hx
  rw [Expr.d_eq] at hr
  have r0 := (hr 0 _ rfl).int_inv
  have r1 := (hr 1 _ rfl).int_inv
  have r2 := (hr 2 _ rfl).str_inv
  have r3 := hr 3 _ rfl
  obtain ⟨A', c', e3, _, _⟩ := r3.row_inv
  have c0 := hc 0 (by omega)
  have c1 := hc 1 (by omega)
  have c2 := hc 2 (by omega)
  have c3 := hc 3 (by omega)
  rw [r0.1] at c0
  rw [r1.1] at c1
  rw [r2.1] at c2
  rw [e3, Expr.ds_length] at c3
  rw [e3, Expr.ds_length] at r3
  exact ⟨b, o, A', c', rfl, hs, World.block_lt_of_cell? w _ c0, by rw [hn, Expr.ds_length], c0, c1, c2, c3, r3, r2.2, r0.2, r1.2⟩
end Go.Proofs.YtfdpkmpnfalggaaDoor
