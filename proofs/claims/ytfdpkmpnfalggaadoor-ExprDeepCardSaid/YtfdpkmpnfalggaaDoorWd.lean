/- Words of this seat's proofs: what a value reads as in a world (RdV), with the blocks that the reading touches; how readings stay when the world grows. Plain lemmas, no condition. -/
import Derived.Below
import Derived.WalkKit
import Derived.Deep.Draws
import Derived.KernelRfl
namespace Go.Proofs.YtfdpkmpnfalggaaDoor
open Go.RowKit

theorem _root_.Go.RowKit.Below.trans' {w w1 w2 : World} (h : Below w.heap.size w w1) (k : Below w1.heap.size w1 w2) : Below w.heap.size w w2 :=
  h.trans ⟨k.os, k.tape, k.output, k.size, fun i hi => k.block i (Nat.lt_of_lt_of_le hi h.size)⟩
theorem below_alloc' {w W : World} (h : Below w.heap.size w W) (o : Obj) : Below w.heap.size w (W.alloc o) := h.alloc h.size o
theorem below_set' {w W : World} {B b o : Nat} {s : Option Nat} {v : Value} (h : Below B w W) (hb : B ≤ b) : Below B w (W.setCell ⟨b, o, s⟩ v) := h.setCell hb v
theorem below_drewN' {B : Nat} {w W : World} (h : Below B w W) (n : Nat) : Below B w (W.drewN n) := ⟨h.os, h.tape, h.output, h.size, h.block⟩
theorem below_drew' {B : Nat} {w W : World} (h : Below B w W) : Below B w W.drew := ⟨h.os, h.tape, h.output, h.size, h.block⟩

theorem bcell {W w1 : World} (hb : Below W.heap.size W w1) : (∀ b o, b < W.heap.size → w1.cell? ⟨b, o, none⟩ = W.cell? ⟨b, o, none⟩) ∧ (∀ b o, b < W.heap.size → w1.frozen? ⟨b, o, none⟩ = W.frozen? ⟨b, o, none⟩) :=
  ⟨fun b o h => hb.cell (p := ⟨b, o, none⟩) h, fun b o h => hb.frozen (p := ⟨b, o, none⟩) h⟩

/-- A call of a function that has a body: it is entered. -/
theorem enter_call {P : Program} {f : FuncId} {fn : Func} {c : Code} (hf : P.funcs[f]? = some fn) (hname : (fn.name == "runtime.NumGoroutine") = false) (hb : fn.body = some c) (args : Array Value) (w : World) :
    (callFunc f args).run P w = .ok (.enter f args) w := by
  have h1 : fn.name ≠ "runtime.NumGoroutine" := by simpa using hname
  simp [callFunc, hf, h1, hb]

/-- Data: whole numbers, bools, texts, rows of records. -/
inductive D where
  | i (k : IntKind) (n : Int)
  | b (x : Bool)
  | s (x : ByteArray)
  | l (sz : Nat) (xs : List (List D))

/-- What a value reads as; S: the blocks that may be looked into. -/
inductive RdV (S : Nat → Prop) (w : World) : D → Value → Prop
  | i (k : IntKind) (n : Int) (h : k.wrap n = n) : RdV S w (.i k n) (.int k n)
  | b (x : Bool) : RdV S w (.b x) (.bool x)
  | s (x : ByteArray) (h : x.size ≤ maxLen) : RdV S w (.s x) (.string x)
  | l0 (sz : Nat) (A : Option Addr) (c : Nat) : RdV S w (.l sz []) (.slice A 0 c)
  | l (sz : Nat) (xs : List (List D)) (b o c : Nat) (f : Nat → Nat → Value) (hn : xs.length ≤ c) (hm : xs.length ≤ maxLen) (hs : S b) (hp : 0 < sz)
      (hz : ∀ (i : Nat) (x : List D), xs[i]? = some x → x.length = sz)
      (hc : ∀ (i j : Nat), i < xs.length → j < sz → w.cell? ⟨b, o + (i * sz + j), none⟩ = some (f i j))
      (hr : ∀ (i j : Nat) (x : List D) (d : D), xs[i]? = some x → x[j]? = some d → RdV S w d (f i j)) : RdV S w (.l sz xs) (.slice (some ⟨b, o, none⟩) xs.length c)

namespace RdV
variable {S S' : Nat → Prop} {w w' : World} {d : D} {v : Value}

theorem mono (h : RdV S w d v) (hs : ∀ b, S b → S' b) : RdV S' w d v := by
  induction h with
  | i k n h => exact .i k n h
  | b x => exact .b x
  | s x h => exact .s x h
  | l0 sz A c => exact .l0 sz A c
  | l sz xs b o c f hn hm hb hp hz hc hr ih => exact .l sz xs b o c f hn hm (hs b hb) hp hz hc ih

theorem move (h : RdV S w d v) (hm : ∀ b, S b → b < w.heap.size → w'.heap[b]? = w.heap[b]?) : RdV S w' d v := by
  induction h with
  | i k n h => exact .i k n h
  | b x => exact .b x
  | s x h => exact .s x h
  | l0 sz A c => exact .l0 sz A c
  | l sz xs b o c f hn hx hb hp hz hc hr ih =>
    by_cases h0 : xs = []
    · subst h0; exact .l0 _ _ _
    · refine .l sz xs b o c f hn hx hb hp hz (fun i j hi hj => ?_) ih
      have h1 := hc i j hi hj
      rw [World.cell?_of_block (hm b hb (World.block_lt_of_cell? w _ h1))]
      exact h1

theorem blw (h : RdV S w d v) (hb : Below w.heap.size w w') : RdV S w' d v := h.move fun b _ hl => hb.block b hl

theorem lt (h : RdV S w d v) : RdV (fun b => S b ∧ b < w.heap.size) w d v := by
  induction h with
  | i k n h => exact .i k n h
  | b x => exact .b x
  | s x h => exact .s x h
  | l0 sz A c => exact .l0 sz A c
  | l sz xs b o c f hn hx hb hp hz hc hr ih =>
    by_cases h0 : xs = []
    · subst h0; exact .l0 _ _ _
    · have h1 := hc 0 0 (List.length_pos_iff.2 h0) hp
      exact .l sz xs b o c f hn hx ⟨hb, World.block_lt_of_cell? w _ h1⟩ hp hz hc ih

theorem int_inv {k : IntKind} {n : Int} (h : RdV S w (.i k n) v) : v = .int k n ∧ k.wrap n = n := by cases h with | i k n h => exact ⟨rfl, h⟩
theorem bool_inv {x : Bool} (h : RdV S w (.b x) v) : v = .bool x := by cases h; rfl
theorem str_inv {x : ByteArray} (h : RdV S w (.s x) v) : v = .string x ∧ x.size ≤ maxLen := by cases h with | s x h => exact ⟨rfl, h⟩
theorem row_inv {sz : Nat} {xs : List (List D)} (h : RdV S w (.l sz xs) v) : ∃ A c, v = .slice A xs.length c ∧ xs.length ≤ c ∧ xs.length ≤ maxLen := by
  cases h with
  | l0 sz A c => exact ⟨A, c, rfl, Nat.zero_le _, Nat.zero_le _⟩
  | l sz xs b o c f hn hm hs hp hz hc hr => exact ⟨_, c, rfl, hn, hm⟩

theorem len_le {sz : Nat} {xs : List (List D)} {A : Option Addr} {n c : Nat} (h : RdV S w (.l sz xs) (.slice A n c)) : n ≤ 9223372036854775807 := by
  obtain ⟨A', c', e, _, hm⟩ := h.row_inv
  simp only [Value.slice.injEq] at e
  unfold maxLen at hm
  omega

/-- The element at a place: its cells, and what each reads as. -/
theorem at_ {sz : Nat} {xs : List (List D)} {A : Option Addr} {n c : Nat} (h : RdV S w (.l sz xs) (.slice A n c)) {i : Nat} {x : List D} (hx : xs[i]? = some x) :
    ∃ (b o : Nat) (f : Nat → Value), A = some ⟨b, o, none⟩ ∧ S b ∧ n = xs.length ∧ i < n ∧ (∀ j, j < sz → w.cell? ⟨b, o + (i * sz + j), none⟩ = some (f j)) ∧ ∀ (j : Nat) (d : D), x[j]? = some d → RdV S w d (f j) := by
  have hi : i < xs.length := (List.getElem?_eq_some_iff.1 hx).1
  cases h with
  | l0 sz A c => simp at hx
  | l sz xs b o c f hn hm hs hp hz hc hr => exact ⟨b, o, f i, rfl, hs, rfl, hi, fun j hj => hc i j hi hj, fun j d hd => hr i j x d hx hd⟩
end RdV

/-- Cells that read as a record. -/
def RdL (S : Nat → Prop) (w : World) (ds : List D) (vs : List Value) : Prop := ds.length = vs.length ∧ ∀ (j : Nat) (d : D) (v : Value), ds[j]? = some d → vs[j]? = some v → RdV S w d v
namespace RdL
variable {S S' : Nat → Prop} {w w' : World} {ds : List D} {vs : List Value} {d : D} {v : Value}
theorem nil : RdL S w [] [] := ⟨rfl, by simp⟩
theorem cons (h : RdV S w d v) (t : RdL S w ds vs) : RdL S w (d :: ds) (v :: vs) := by
  refine ⟨by simp [t.1], fun j d' v' h1 h2 => ?_⟩
  cases j with
  | zero => simp at h1 h2; subst h1; subst h2; exact h
  | succ j => simp at h1 h2; exact t.2 j d' v' h1 h2
theorem cons_inv (h : RdL S w (d :: ds) vs) : ∃ v vs', vs = v :: vs' ∧ RdV S w d v ∧ RdL S w ds vs' := by
  obtain ⟨h1, h2⟩ := h
  cases vs with
  | nil => simp at h1
  | cons v vs' => exact ⟨v, vs', rfl, h2 0 d v rfl rfl, by simpa using h1, fun j d' v' a b => h2 (j + 1) d' v' (by simpa using a) (by simpa using b)⟩
theorem nil_inv (h : RdL S w [] vs) : vs = [] := by
  have := h.1
  cases vs with
  | nil => rfl
  | cons v vs => simp at this
theorem mono (h : RdL S w ds vs) (hs : ∀ b, S b → S' b) : RdL S' w ds vs := ⟨h.1, fun j d v a b => (h.2 j d v a b).mono hs⟩
theorem move (h : RdL S w ds vs) (hm : ∀ b, S b → b < w.heap.size → w'.heap[b]? = w.heap[b]?) : RdL S w' ds vs := ⟨h.1, fun j d v a b => (h.2 j d v a b).move hm⟩
theorem blw (h : RdL S w ds vs) (hb : Below w.heap.size w w') : RdL S w' ds vs := h.move fun b _ hl => hb.block b hl
theorem lt (h : RdL S w ds vs) : RdL (fun b => S b ∧ b < w.heap.size) w ds vs := ⟨h.1, fun j d v a b => (h.2 j d v a b).lt⟩
end RdL

end Go.Proofs.YtfdpkmpnfalggaaDoor
