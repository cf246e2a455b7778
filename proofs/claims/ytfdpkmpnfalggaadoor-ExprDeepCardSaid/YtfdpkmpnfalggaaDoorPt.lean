/- expr.text and expr.Print at a sum of two small numbers (the document's example) by contracts. -/
import Derived.Test.YtfdpkmpnfalggaaDoorRight
import Derived.Test.YtfdpkmpnfalggaaDoorShelfB
import Derived.Deep.RegionHeld3
set_option linter.unusedVariables false
set_option linter.unusedSimpArgs false
namespace Go.Proofs.YtfdpkmpnfalggaaDoor
open Go.RowKit

theorem form_cell (w : World) (b k : Nat) (hb : b = w.heap.size) (hk : k < 20) : (w.alloc (.cells formCells 117)).cell? ⟨b, k * 2 + 1, none⟩ = some (.string (formText k)) := by
  subst hb
  simp [World.cell?, World.alloc, -World.alloc_eq, formCells_text k hk]
theorem ret_str {a b : ByteArray} (h : a = b) : Ending.returned (.string a) = .returned (.string b) := by rw [h]
def decB (n : Nat) : ByteArray := ⟨(Lib.decDigits n).toArray⟩
set_option maxRecDepth 100000 in
set_option maxHeartbeats 1000000 in
theorem etext_num (n : Nat) (hn : n < 100) (w : World) : Calls Tryd.prog 36 #[.agg #[.int .i64 0, .int .i64 n, .string ⟨#[]⟩, .slice none 0 0]] w fun e w' => e = .returned (.string (decB n)) ∧ Below w.heap.size w w' := by
  have hI := fun W => Tryd.strconv_Itoa_small n hn W
  have hfc : ∀ o, ((w.alloc o).alloc (.cells formCells 117)).cell? ⟨w.heap.size + 1, 1, none⟩ = some (.string ⟨#[]⟩) := fun o => form_cell (w.alloc o) (w.heap.size + 1) 0 (by simp) (by decide)
  go_enter Tryd.func36, Tryd.ntmps36
  go_wp2_with fail
  go_region_with (go_at_call 67; refine (forms_any _).mono ?_; rintro e w1 ⟨rfl, rfl⟩)
  all_goals
    go_wp2_with (go_at_call 68; refine (hI _).mono ?_; rintro e w2 ⟨rfl, rfl⟩)
    go_ret
    exact ⟨rfl, by with_reducible repeat (first | exact Below.refl _ _ | apply below_drew' | apply below_drewN' | apply below_alloc')⟩

theorem decB_1 : decB 1 = (⟨#[49]⟩ : ByteArray) := by unfold decB; rw [Lib.decDigits]; rfl
theorem decB_2 : decB 2 = (⟨#[50]⟩ : ByteArray) := by unfold decB; rw [Lib.decDigits]; rfl
/-- What the region of the sum reads. -/
abbrev SumS (w : World) (kb b : Nat) (W : World) : Prop := W.cell? ⟨b, 3, none⟩ = some (.slice (some ⟨kb, 0, none⟩) 2 2) ∧ W.cell? ⟨kb, 0, none⟩ = some (.int .i64 0) ∧ W.cell? ⟨kb, 1, none⟩ = some (.int .i64 1) ∧ W.cell? ⟨kb, 2, none⟩ = some (.string ⟨#[]⟩) ∧ W.cell? ⟨kb, 3, none⟩ = some (.slice none 0 0) ∧
  W.cell? ⟨kb, 4, none⟩ = some (.int .i64 0) ∧ W.cell? ⟨kb, 5, none⟩ = some (.int .i64 2) ∧ W.cell? ⟨kb, 6, none⟩ = some (.string ⟨#[]⟩) ∧ W.cell? ⟨kb, 7, none⟩ = some (.slice none 0 0) ∧ Below w.heap.size w W
set_option maxRecDepth 100000 in
set_option maxHeartbeats 4000000 in
theorem etext_sum (kb : Nat) (w : World) (hkb : kb < w.heap.size) (h0 : w.cell? ⟨kb, 0, none⟩ = some (.int .i64 0)) (h1 : w.cell? ⟨kb, 1, none⟩ = some (.int .i64 1)) (h2 : w.cell? ⟨kb, 2, none⟩ = some (.string ⟨#[]⟩)) (h3 : w.cell? ⟨kb, 3, none⟩ = some (.slice none 0 0))
    (h4 : w.cell? ⟨kb, 4, none⟩ = some (.int .i64 0)) (h5 : w.cell? ⟨kb, 5, none⟩ = some (.int .i64 2)) (h6 : w.cell? ⟨kb, 6, none⟩ = some (.string ⟨#[]⟩)) (h7 : w.cell? ⟨kb, 7, none⟩ = some (.slice none 0 0)) :
    Calls Tryd.prog 36 #[.agg #[.int .i64 6, .int .i64 0, .string ⟨#[]⟩, .slice (some ⟨kb, 0, none⟩) 2 2]] w fun e w' => e = .returned (.string (⟨#[40, 49, 32, 43, 32, 50, 41]⟩ : ByteArray)) ∧ Below w.heap.size w w' := by
  have hfc : ∀ o, ((w.alloc o).alloc (.cells formCells 117)).cell? ⟨w.heap.size + 1, 13, none⟩ = some (.string (⟨#[43]⟩ : ByteArray)) := fun o => form_cell (w.alloc o) (w.heap.size + 1) 6 (by simp) (by decide)
  have hS : ∀ W W', SumS w kb w.heap.size W → w.heap.size < W.heap.size → Below W.heap.size W W' → SumS w kb w.heap.size W' := fun W W' ⟨a, b0, b1, b2, b3, b4, b5, b6, b7, hB⟩ hl hb =>
    have hk : kb < W.heap.size := by omega
    ⟨(hb.cell (p := ⟨w.heap.size, 3, none⟩) hl).trans a, (hb.cell (p := ⟨kb, 0, none⟩) hk).trans b0, (hb.cell (p := ⟨kb, 1, none⟩) hk).trans b1, (hb.cell (p := ⟨kb, 2, none⟩) hk).trans b2, (hb.cell (p := ⟨kb, 3, none⟩) hk).trans b3, (hb.cell (p := ⟨kb, 4, none⟩) hk).trans b4, (hb.cell (p := ⟨kb, 5, none⟩) hk).trans b5,
      (hb.cell (p := ⟨kb, 6, none⟩) hk).trans b6, (hb.cell (p := ⟨kb, 7, none⟩) hk).trans b7, hB.trans' hb⟩
  have hT1 : ∀ W, SumS w kb w.heap.size W → Calls Tryd.prog 36 #[.agg #[.int .i64 0, .int .i64 1, .string ⟨#[]⟩, .slice none 0 0]] W fun e w' => e = .returned (.string (⟨#[49]⟩ : ByteArray)) ∧ SumS w kb w.heap.size w' := fun W hW => by
    have := etext_num 1 (by decide) W
    rw [decB_1] at this
    exact this.mono fun e w' ⟨he, hb⟩ => ⟨he, hS W w' hW (by have := World.block_lt_of_cell? W _ hW.1; exact this) hb⟩
  have hT2 : ∀ W, SumS w kb w.heap.size W → Calls Tryd.prog 36 #[.agg #[.int .i64 0, .int .i64 2, .string ⟨#[]⟩, .slice none 0 0]] W fun e w' => e = .returned (.string (⟨#[50]⟩ : ByteArray)) ∧ SumS w kb w.heap.size w' := fun W hW => by
    have := etext_num 2 (by decide) W
    rw [decB_2] at this
    exact this.mono fun e w' ⟨he, hb⟩ => ⟨he, hS W w' hW (by have := World.block_lt_of_cell? W _ hW.1; exact this) hb⟩
  clear hS
  go_enter Tryd.func36, Tryd.ntmps36
  go_wp2_with fail
  go_region_with (go_at_call 67; refine (forms_any _).mono ?_; rintro e w1 ⟨rfl, rfl⟩)
  all_goals
    go_wp2_with fail
    have hS0 : SumS w kb w.heap.size (((w.alloc (.cells #[.int .i64 6, .int .i64 0, .string ⟨#[]⟩, .slice (some ⟨kb, 0, none⟩) 2 2] 24)).alloc (.cells formCells 117)).drew) := by
      have hb : Below w.heap.size w (((w.alloc (.cells #[.int .i64 6, .int .i64 0, .string ⟨#[]⟩, .slice (some ⟨kb, 0, none⟩) 2 2] 24)).alloc (.cells formCells 117)).drew) := below_drew' (below_alloc' (below_alloc' (Below.refl _ _) _) _)
      exact ⟨by simp [go_sem], (hb.cell (p := ⟨kb, 0, none⟩) hkb).trans h0, (hb.cell (p := ⟨kb, 1, none⟩) hkb).trans h1, (hb.cell (p := ⟨kb, 2, none⟩) hkb).trans h2, (hb.cell (p := ⟨kb, 3, none⟩) hkb).trans h3, (hb.cell (p := ⟨kb, 4, none⟩) hkb).trans h4, (hb.cell (p := ⟨kb, 5, none⟩) hkb).trans h5, (hb.cell (p := ⟨kb, 6, none⟩) hkb).trans h6, (hb.cell (p := ⟨kb, 7, none⟩) hkb).trans h7, hb⟩
    generalize ((w.alloc (.cells #[.int .i64 6, .int .i64 0, .string ⟨#[]⟩, .slice (some ⟨kb, 0, none⟩) 2 2] 24)).alloc (.cells formCells 117)).drew = w1 at hS0 ⊢
    have hS1 : SumS w kb w.heap.size w1.drew := ⟨hS0.1, hS0.2.1, hS0.2.2.1, hS0.2.2.2.1, hS0.2.2.2.2.1, hS0.2.2.2.2.2.1, hS0.2.2.2.2.2.2.1, hS0.2.2.2.2.2.2.2.1, hS0.2.2.2.2.2.2.2.2.1, below_drew' hS0.2.2.2.2.2.2.2.2.2⟩
    go_region_held3 (fun W => W.cell? ⟨w.heap.size, 3, none⟩ = some (.slice (some ⟨kb, 0, none⟩) 2 2) ∧ W.cell? ⟨kb, 0, none⟩ = some (.int .i64 0) ∧ W.cell? ⟨kb, 1, none⟩ = some (.int .i64 1) ∧ W.cell? ⟨kb, 2, none⟩ = some (.string ⟨#[]⟩) ∧ W.cell? ⟨kb, 3, none⟩ = some (.slice none 0 0) ∧ W.cell? ⟨kb, 4, none⟩ = some (.int .i64 0) ∧ W.cell? ⟨kb, 5, none⟩ = some (.int .i64 2) ∧ W.cell? ⟨kb, 6, none⟩ = some (.string ⟨#[]⟩) ∧ W.cell? ⟨kb, 7, none⟩ = some (.slice none 0 0) ∧ Below w.heap.size w W) (first | assumption | exact hS1) (first | (go_at_call 36; (with_reducible refine (hT1 _ (by assumption)).mono ?_); rintro e w2 ⟨rfl, hq⟩) | (go_at_call 36; (with_reducible refine (hT2 _ (by assumption)).mono ?_); rintro e w2 ⟨rfl, hq⟩))
    go_wp2_with fail
    go_ret
    exact ⟨ret_str (by decide +kernel), hq.2.2.2.2.2.2.2.2.2⟩

/-- The document's example, 1 + 2. -/
def numE (n : Int) : Expr := .mk 0 n ByteArray.empty []
def sumE : Expr := .mk 6 0 ByteArray.empty [numE 1, numE 2]
structure SumAt (w : World) (kb : Nat) : Prop where
  lt : kb < w.heap.size
  h0 : w.cell? ⟨kb, 0, none⟩ = some (.int .i64 0)
  h1 : w.cell? ⟨kb, 1, none⟩ = some (.int .i64 1)
  h2 : w.cell? ⟨kb, 2, none⟩ = some (.string ⟨#[]⟩)
  h3 : w.cell? ⟨kb, 3, none⟩ = some (.slice none 0 0)
  h4 : w.cell? ⟨kb, 4, none⟩ = some (.int .i64 0)
  h5 : w.cell? ⟨kb, 5, none⟩ = some (.int .i64 2)
  h6 : w.cell? ⟨kb, 6, none⟩ = some (.string ⟨#[]⟩)
  h7 : w.cell? ⟨kb, 7, none⟩ = some (.slice none 0 0)
theorem SumAt.blw {w w' : World} {kb : Nat} (h : SumAt w kb) (hb : Below w.heap.size w w') : SumAt w' kb :=
  ⟨Nat.lt_of_lt_of_le h.lt hb.size, (hb.cell (p := ⟨kb, 0, none⟩) h.lt).trans h.h0, (hb.cell (p := ⟨kb, 1, none⟩) h.lt).trans h.h1, (hb.cell (p := ⟨kb, 2, none⟩) h.lt).trans h.h2, (hb.cell (p := ⟨kb, 3, none⟩) h.lt).trans h.h3,
    (hb.cell (p := ⟨kb, 4, none⟩) h.lt).trans h.h4, (hb.cell (p := ⟨kb, 5, none⟩) h.lt).trans h.h5, (hb.cell (p := ⟨kb, 6, none⟩) h.lt).trans h.h6, (hb.cell (p := ⟨kb, 7, none⟩) h.lt).trans h.h7⟩
theorem num_d (n : Int) (hn : IntKind.i64.wrap n = n) (w : World) : RdL (fun _ => True) w (numE n).d [.int .i64 0, .int .i64 n, .string ⟨#[]⟩, .slice none 0 0] := by
  rw [Expr.d_eq]
  exact RdL.cons (.i _ _ (by simp only [numE, Expr.kind]; decide)) (RdL.cons (.i _ _ hn) (RdL.cons (.s _ (by simp only [numE, Expr.name]; decide)) (RdL.cons (.l0 _ _ _) RdL.nil)))
theorem sum_rd {w : World} {kb : Nat} (h : SumAt w kb) : RdL (fun _ => True) w sumE.d [.int .i64 sumE.kind, .int .i64 sumE.n, .string sumE.name, .slice (some ⟨kb, 0, none⟩) sumE.kids.length 2] := by
  rw [Expr.d_eq]
  refine RdL.cons (.i _ _ (by decide)) (RdL.cons (.i _ _ (by decide)) (RdL.cons (.s _ (by decide)) (RdL.cons ?_ RdL.nil)))
  have := RdV.l (S := fun _ => True) (w := w) 4 (Expr.ds [numE 1, numE 2]) kb 0 2 (fun i j => match i, j with | 0, 0 => .int .i64 0 | 0, 1 => .int .i64 1 | 0, 2 => .string ⟨#[]⟩ | 0, _ => .slice none 0 0 | _, 0 => .int .i64 0 | _, 1 => .int .i64 2 | _, 2 => .string ⟨#[]⟩ | _, _ => .slice none 0 0) (by decide) (by decide) trivial (by decide)
    (fun i x hx => by
      match i, hx with
      | 0, hx => cases hx; rfl
      | 1, hx => cases hx; rfl)
    (fun i j hi hj => by
      have hi' : i < 2 := hi
      rw [Nat.zero_add]
      match i, hi', j, hj with
      | 0, _, 0, _ => exact h.h0
      | 0, _, 1, _ => exact h.h1
      | 0, _, 2, _ => exact h.h2
      | 0, _, 3, _ => exact h.h3
      | 1, _, 0, _ => exact h.h4
      | 1, _, 1, _ => exact h.h5
      | 1, _, 2, _ => exact h.h6
      | 1, _, 3, _ => exact h.h7)
    (fun i j x d hx hd => by
      match i, hx with
      | 0, hx =>
        cases hx
        match j, hd with
        | 0, hd => exact (num_d 1 (by decide) w).2 0 d _ hd rfl
        | 1, hd => exact (num_d 1 (by decide) w).2 1 d _ hd rfl
        | 2, hd => exact (num_d 1 (by decide) w).2 2 d _ hd rfl
        | 3, hd => exact (num_d 1 (by decide) w).2 3 d _ hd rfl
      | 1, hx =>
        cases hx
        match j, hd with
        | 0, hd => exact (num_d 2 (by decide) w).2 0 d _ hd rfl
        | 1, hd => exact (num_d 2 (by decide) w).2 1 d _ hd rfl
        | 2, hd => exact (num_d 2 (by decide) w).2 2 d _ hd rfl
        | 3, hd => exact (num_d 2 (by decide) w).2 3 d _ hd rfl)
  exact this
theorem sum_right : rightB sumE = true := by decide +kernel
theorem ePrint_sum (kb : Nat) (w : World) (h : SumAt w kb) (ht : Spaces w) : Calls Tryd.prog 20 #[.agg #[.int .i64 6, .int .i64 0, .string ⟨#[]⟩, .slice (some ⟨kb, 0, none⟩) 2 2]] w fun e w' => e = .returned (.string (⟨#[40, 49, 32, 43, 32, 50, 41]⟩ : ByteArray)) ∧ Below w.heap.size w w' := by
  have hB : ∀ o, Below w.heap.size w (w.alloc o) := fun o => below_alloc' (Below.refl _ _) o
  have hR : ∀ W, SumAt W kb → Spaces W → Calls Tryd.prog 21 #[.agg #[.int .i64 6, .int .i64 0, .string ⟨#[]⟩, .slice (some ⟨kb, 0, none⟩) 2 2]] W fun e w' => e = .returned (.bool true) ∧ Below W.heap.size W w' := fun W h1 h2 => by
    have := eRight_any sumE (some ⟨kb, 0, none⟩) 2 (fun _ => True) W (sum_rd h1) h2
    rw [sum_right] at this
    exact this
  have hT := fun W (h : SumAt W kb) => etext_sum kb W h.lt h.h0 h.h1 h.h2 h.h3 h.h4 h.h5 h.h6 h.h7
  go_enter Tryd.func20, Tryd.ntmps20
  go_wp2_with (first
    | (go_at_call 21; (with_reducible refine (hR _ (h.blw (hB _)) (ht.kept (hB _))).mono ?_); rintro e w1 ⟨rfl, hb⟩; obtain ⟨q1, q2⟩ := bcell hb)
    | (go_at_call 36; (with_reducible refine (hT _ ((h.blw (hB _)).blw hb)).mono ?_); rintro e w2 ⟨rfl, hb2⟩))
  go_ret
  exact ⟨rfl, ((hB _).trans' hb).trans' hb2⟩
end Go.Proofs.YtfdpkmpnfalggaaDoor
