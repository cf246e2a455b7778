/- The law's alive (chapter 10) by contract: it answers true. -/
import Derived.Test.YtfdpkmpnfalggaaDoorPt
set_option linter.unusedVariables false
set_option linter.unusedSimpArgs false
namespace Go.Proofs.YtfdpkmpnfalggaaDoor
open Go.RowKit

theorem num10_any (n : Int) (w : World) : Calls Tryd.prog 19 #[.int .i64 n] w fun e w' => e = .returned (.int .i64 n) ∧ w = w' := by
  go_enter Tryd.func19, Tryd.ntmps19
  go_wp2
  go_ret
  exact ⟨rfl, rfl⟩
theorem sum_at (w : World) (o : Obj) : SumAt ((w.alloc (.cells #[.int .i64 0, .int .i64 1, .string ⟨#[]⟩, .slice none 0 0, .int .i64 0, .int .i64 2, .string ⟨#[]⟩, .slice none 0 0] 24)).alloc o) w.heap.size := by
  refine ⟨by simp; omega, ?_, ?_, ?_, ?_, ?_, ?_, ?_, ?_⟩ <;> simp [go_sem]
theorem minus_right : rightB (.mk (-1) 0 ByteArray.empty []) = false := by decide +kernel
set_option maxHeartbeats 1000000 in
theorem alive10_any (w : World) (ht : Spaces w) : Calls Tryd.prog 14 #[] w fun e w' => e = .returned (.bool true) ∧ Below w.heap.size w w' := by
  have hS := sum_at w (.cells #[.int .i64 6, .int .i64 0, .string ⟨#[]⟩, .slice (some ⟨w.heap.size, 0, none⟩) 2 2] 24)
  have hB := below_alloc' (below_alloc' (Below.refl w.heap.size w) (.cells #[.int .i64 0, .int .i64 1, .string ⟨#[]⟩, .slice none 0 0, .int .i64 0, .int .i64 2, .string ⟨#[]⟩, .slice none 0 0] 24)) (.cells #[.int .i64 6, .int .i64 0, .string ⟨#[]⟩, .slice (some ⟨w.heap.size, 0, none⟩) 2 2] 24)
  have hP := fun W h1 h2 => ePrint_sum w.heap.size W h1 h2
  have hR : ∀ W, SumAt W w.heap.size → Spaces W → Calls Tryd.prog 21 #[.agg #[.int .i64 6, .int .i64 0, .string ⟨#[]⟩, .slice (some ⟨w.heap.size, 0, none⟩) 2 2]] W fun e w' => e = .returned (.bool true) ∧ Below W.heap.size W w' := fun W h1 h2 => by
    have := eRight_any sumE (some ⟨w.heap.size, 0, none⟩) 2 (fun _ => True) W (sum_rd h1) h2
    rw [sum_right] at this
    exact this
  have hM : ∀ W, Spaces W → Calls Tryd.prog 21 #[.agg #[.int .i64 (-1), .int .i64 0, .string ⟨#[]⟩, .slice none 0 0]] W fun e w' => e = .returned (.bool false) ∧ Below W.heap.size W w' := fun W h2 => by
    have := eRight_any (.mk (-1) 0 ByteArray.empty []) none 0 (fun _ => True) W (by
      rw [Expr.d_eq]
      exact RdL.cons (.i _ _ (by decide)) (RdL.cons (.i _ _ (by decide)) (RdL.cons (.s _ (by decide)) (RdL.cons (.l0 _ _ _) RdL.nil)))) h2
    rw [minus_right] at this
    exact this
  go_enter Tryd.func14, Tryd.ntmps14
  go_wp2_with (first
    | (go_at_call 20; (with_reducible refine (hP _ hS (ht.kept hB)).mono ?_); rintro e w1 ⟨rfl, hb1⟩; have hB1 := hB.trans' hb1; have hS1 := hS.blw hb1; obtain ⟨q1, q2⟩ := bcell hb1)
    | (go_at_call 21; (with_reducible refine (hR _ hS1 (ht.kept hB1)).mono ?_); rintro e w2 ⟨rfl, hb2⟩; have hB2 := hB1.trans' hb2)
    | (go_at_call 21; (with_reducible refine (hM _ (ht.kept hB2)).mono ?_); rintro e w3 ⟨rfl, hb3⟩))
  go_ret
  exact ⟨rfl, hB2.trans' hb3⟩
end Go.Proofs.YtfdpkmpnfalggaaDoor
