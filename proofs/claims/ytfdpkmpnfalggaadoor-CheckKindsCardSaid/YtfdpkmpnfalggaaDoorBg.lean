/- Big: an answer of its own, nothing old is written. -/
import Derived.Test.YtfdpkmpnfalggaaDoorRr
set_option linter.unusedVariables false
set_option linter.unusedSimpArgs false
namespace Go.Proofs.YtfdpkmpnfalggaaDoor
open Go.RowKit

set_option maxHeartbeats 1000000 in
theorem big_any : ∀ (m : Nat) (hm : m ≤ 46) (d : Int) (hd : d = 46 - (m : Int)) (kind n : Int) (name : ByteArray) (kids : List Expr) (A : Option Addr) (c : Nat) (S : Nat → Prop) (w : World)
    (hr : RdV S w (.l 4 (Expr.ds kids)) (.slice A kids.length c)) (hs : name.size ≤ maxLen),
    Calls Tryd.prog 10 #[.agg #[.int .i64 kind, .int .i64 n, .string name, .slice A kids.length c], .int .i64 d] w fun e w' => ∃ b : Bool, e = .returned (.bool b) ∧ Below w.heap.size w w' := by
  intro m
  induction m with
  | zero =>
    intro hm d hd kind n name kids A c S w hr hs
    have hd1 : decide (45 < d) = true := by simp; omega
    have hB : ∀ o, Below w.heap.size w (w.alloc o) := fun o => below_alloc' (Below.refl _ _) _
    go_enter Tryd.func10, Tryd.ntmps10
    go_wp2
    go_ret
    exact ⟨true, rfl, hB _⟩
  | succ m ih =>
    intro hm d hd kind n name kids A c S w hr hs
    have hd1 : decide (45 < d) = false := by simp; omega
    have hdb : 0 ≤ d ∧ d ≤ 45 := by omega
    have hlen := hr.len_le
    have ih' := ih (by omega) (d + 1) (by omega)
    clear ih hd
    have hB : ∀ o, Below w.heap.size w (w.alloc o) := fun o => below_alloc' (Below.refl _ _) _
    by_cases h2 : 4 < kids.length
    · have hd2 : decide (4 < (kids.length : Int)) = true := by simp; omega
      go_enter Tryd.func10, Tryd.ntmps10
      go_wp2
      go_ret
      exact ⟨true, rfl, hB _⟩
    have hd2 : decide (4 < (kids.length : Int)) = false := by simp; omega
    by_cases h3 : 60 < name.size
    · have hd3 : decide (60 < (name.size : Int)) = true := by simp; omega
      go_enter Tryd.func10, Tryd.ntmps10
      go_wp2
      go_ret
      exact ⟨true, rfl, hB _⟩
    have hd3 : decide (60 < (name.size : Int)) = false := by simp; omega
    go_enter Tryd.func10, Tryd.ntmps10
    go_wp2
    go_loopw [5] (fun i wr => (∃ k : Nat, k ≤ kids.length ∧ i = .int .i64 k) ∧ Below (w.alloc (.cells #[.int .i64 kind, .int .i64 n, .string name, .slice A kids.length c] 24)).heap.size (w.alloc (.cells #[.int .i64 kind, .int .i64 n, .string name, .slice A kids.length c] 24)) wr) (fun i _ => kids.length - (intOf i).toNat)
    case atStart => exact ⟨⟨0, Nat.zero_le _, rfl⟩, Below.refl _ _⟩
    case round =>
      obtain ⟨⟨k, hk, rfl⟩, hB1⟩ := hrel
      have hBw : Below w.heap.size w wr := (hB _).trans' hB1
      obtain ⟨q1, q2⟩ := bcell hB1
      by_cases hlt : k < kids.length
      · obtain ⟨b, o, A', c', rfl, _, hb, _, d0, d1, d2, d3, hr', hs', hk'', hn'⟩ := expr_at (hr.blw hBw) hlt
        have hI := ih' kids[k].kind kids[k].n kids[k].name kids[k].kids A' c' S _ hr' hs'
        go_wp2_with (go_at_call 10; refine hI.mono ?_; rintro e w' ⟨bb, rfl, hb'⟩; cases bb)
        · go_roundw
          case rel => exact ⟨⟨k + 1, by omega, by go_num⟩, hB1.trans' hb'⟩
          case measure => simp only [intOf]; omega
        · go_ret
          exact ⟨true, rfl, hBw.trans' hb'⟩
      · go_wp2
        go_ret
        exact ⟨false, rfl, hBw⟩

theorem Big_any (x : Expr) (A : Option Addr) (c : Nat) (S : Nat → Prop) (w : World) (hr : RdL S w x.d [.int .i64 x.kind, .int .i64 x.n, .string x.name, .slice A x.kids.length c]) :
    Calls Tryd.prog 10 #[.agg #[.int .i64 x.kind, .int .i64 x.n, .string x.name, .slice A x.kids.length c], .int .i64 0] w fun e w' => ∃ b : Bool, e = .returned (.bool b) ∧ Below w.heap.size w w' := by
  rw [Expr.d_eq] at hr
  exact big_any 46 (by omega) 0 (by omega) x.kind x.n x.name x.kids A c S w (hr.2 3 _ _ rfl rfl) (hr.2 2 _ _ rfl rfl).str_inv.2
end Go.Proofs.YtfdpkmpnfalggaaDoor
