/- alive: an empty program can be run, and the kind of self. -/
import Derived.Test.YtfdpkmpnfalggaaDoorKe
import Derived.OwnWalk
set_option linter.unusedVariables false
set_option linter.unusedSimpArgs false
namespace Go.Proofs.YtfdpkmpnfalggaaDoor
open Go.RowKit

theorem num13_any (n : Int) (w : World) : Calls Tryd.prog 13 #[.int .i64 n] w fun e w' => e = .returned (.int .i64 n) ∧ w = w' := by
  go_enter Tryd.func13, Tryd.ntmps13
  go_wp2
  go_ret
  exact ⟨rfl, rfl⟩

theorem made_nil (w : World) : Calls Tryd.prog 140 #[.slice none 0 0] w fun e w' => e = .returned (.tuple #[.pointer (some ⟨w.heap.size + 1, 0, none⟩), .int .i64 (-1), .int .i64 0]) ∧ Below w.heap.size w w' := by
  have hmm : ∀ (t : TypeId) (w : World), (Instr.makeMap t none).run Tryd.prog w = .ok (.map (some w.heap.size)) (w.alloc (.map #[] 0)) := fun _ _ => rfl
  go_enter Tryd.func140, Tryd.ntmps140
  go_wp2
  go_loopw [14] (fun i wr => i = .int .i64 0 ∧ Below w.heap.size w wr) (fun _ _ => 0)
  case atStart => exact ⟨rfl, by with_reducible repeat (first | exact Below.refl _ _ | apply below_alloc')⟩
  case round =>
    obtain ⟨rfl, hB⟩ := hrel
    go_wp2
    go_ret3
    exact ⟨rfl, hB⟩

theorem new_nil (w : World) : Calls Tryd.prog 85 #[.slice none 0 0] w fun e w' => e = .returned (.tuple #[.pointer (some ⟨w.heap.size + 1, 0, none⟩), .int .i64 0]) ∧ Below w.heap.size w w' := by
  go_enter Tryd.func85, Tryd.ntmps85
  go_wp2_with (go_at_call 140; refine (made_nil _).mono ?_; rintro e w' ⟨rfl, hb⟩)
  go_ret2
  exact ⟨rfl, hb⟩

theorem keys_nil (w : World) : Calls Tryd.prog 48 #[.slice none 0 0] w fun e w' => e = .returned (.tuple #[.string ByteArray.empty, .int .i64 0]) ∧ Below w.heap.size w w' := by
  go_enter Tryd.func48, Tryd.ntmps48
  go_wp2_with (go_at_call 85; refine (new_nil _).mono ?_; rintro e w' ⟨rfl, hb⟩)
  go_ret2
  exact ⟨rfl, hb⟩

theorem trees_nil (v : Value) (w : World) : Calls Tryd.prog 49 #[.slice none 0 0, v] w fun e w' => e = .returned (.tuple #[.string ByteArray.empty, .int .i64 0]) ∧ Below w.heap.size w w' := by
  go_enter Tryd.func49, Tryd.ntmps49
  go_wp2
  go_loopw [11] (fun i wr => i = .int .i64 0 ∧ Below w.heap.size w wr) (fun _ _ => 0)
  case atStart => exact ⟨rfl, Below.refl _ _⟩
  case round =>
    obtain ⟨rfl, hB⟩ := hrel
    go_wp2
    go_ret2
    exact ⟨rfl, hB⟩

theorem domains_nil (w : World) : Calls Tryd.prog 52 #[.agg #[.slice none 0 0, .slice none 0 0, .slice none 0 0]] w fun e w' => e = .returned (.tuple #[.string ByteArray.empty, .int .i64 0]) ∧ Below w.heap.size w w' := by
  go_enter Tryd.func52, Tryd.ntmps52
  go_wp2
  go_loopw [11] (fun i wr => i = .int .i64 0 ∧ Below w.heap.size w wr) (fun _ _ => 0)
  case atStart => exact ⟨rfl, below_alloc' (Below.refl _ _) _⟩
  case round =>
    obtain ⟨rfl, hB⟩ := hrel
    go_wp2
    go_ret2
    exact ⟨rfl, hB⟩

set_option maxHeartbeats 1000000 in
theorem check_nil (w : World) : Calls Tryd.prog 25 #[.agg #[.slice none 0 0, .slice none 0 0, .slice none 0 0]] w fun e w' => e = .returned (.tuple #[.string ByteArray.empty, .int .i64 0]) ∧ Below w.heap.size w w' := by
  have hmf : ∀ (fn : Fn) (first cap : Array Value) (w : World), (Instr.makeFunc fn first cap).run Tryd.prog w = .ok (.func fn first cap) w := fun _ _ _ _ => rfl
  have hB : ∀ o, Below w.heap.size w (w.alloc o) := fun o => below_alloc' (Below.refl _ _) _
  go_enter Tryd.func25, Tryd.ntmps25
  go_wp2_with (first
    | (go_at_call 48; refine (keys_nil _).mono ?_; rintro e w1 ⟨rfl, hb1⟩; obtain ⟨q1, q2⟩ := bcell hb1; have hB1 : w.heap.size + 2 ≤ w1.heap.size := (by have := hb1.size; simpa using this); have hx1 : w.heap.size < w1.heap.size := (by omega); have hy1 : w.heap.size + 1 < w1.heap.size := (by omega))
    | (go_at_call 49; refine (trees_nil _ _).mono ?_; rintro e w2 ⟨rfl, hb2⟩; obtain ⟨q3, q4⟩ := bcell hb2; have hB2 := hb2.size; have hx2 : w.heap.size < w2.heap.size := (by omega); have hy2 : w.heap.size + 1 < w2.heap.size := (by omega))
    | (go_at_call 52; refine (domains_nil _).mono ?_; rintro e w3 ⟨rfl, hb3⟩; obtain ⟨q5, q6⟩ := bcell hb3; have hB3 := hb3.size; have hx3 : w.heap.size < w3.heap.size := (by omega); have hy3 : w.heap.size + 1 < w3.heap.size := (by omega)))
  have hw3 : Below w.heap.size w w3 := ((((hB _).alloc (by simp) _).trans' hb1).trans' hb2).trans' hb3
  have g1 : w1.cell? ⟨w.heap.size, 1, none⟩ = some (.slice none 0 0) := by rw [q1 _ 1 (by simp; omega)]; simp [go_sem]
  have z1 : w3.cell? ⟨w.heap.size, 1, none⟩ = some (.slice none 0 0) := by rw [q5 _ 1 hx2, q3 _ 1 hx1, g1]
  have z2 : ∀ k, k < 3 → ∃ n, w3.cell? ⟨w.heap.size + 1, k, none⟩ = some (.func (.func n) #[] #[.pointer (some ⟨w.heap.size, 0, none⟩)]) := by
    intro k hk
    rcases (show k = 0 ∨ k = 1 ∨ k = 2 by omega) with rfl | rfl | rfl
    · exact ⟨41, by rw [q5 _ 0 hy2, q3 _ 0 hy1, q1 _ 0 (by simp)]; simp [go_sem]⟩
    · exact ⟨43, by rw [q5 _ 1 hy2, q3 _ 1 hy1, q1 _ 1 (by simp)]; simp [go_sem]⟩
    · exact ⟨46, by rw [q5 _ 2 hy2, q3 _ 2 hy1, q1 _ 2 (by simp)]; simp [go_sem]⟩
  clear q1 q2 q3 q4 q5 q6 hb1 hb2 hb3 hB g1
  go_loopw [37, 5, 6] (fun i s e wr => (∃ k : Nat, k ≤ 3 ∧ i = .int .i64 k ∧ s = .string ByteArray.empty ∧ e = .int .i64 0) ∧ Below w3.heap.size w3 wr) (fun i _ _ _ => 3 - (intOf i).toNat)
  case atStart => exact ⟨⟨0, by omega, rfl, rfl, rfl⟩, Below.refl _ _⟩
  case round =>
    obtain ⟨⟨k, hk, rfl, rfl, rfl⟩, hBr⟩ := hrel
    obtain ⟨q1, q2⟩ := bcell hBr
    by_cases hlt : k < 3
    · obtain ⟨n, zz⟩ := z2 k hlt
      go_wp2_with (go_at_call 49; refine (trees_nil _ _).mono ?_; rintro e w4 ⟨rfl, hb4⟩)
      go_roundw
      case rel => exact ⟨⟨k + 1, by omega, by go_num, rfl, rfl⟩, hBr.trans' hb4⟩
      case measure => simp only [intOf]; omega
    · go_wp2
      go_ret2
      exact ⟨rfl, hw3.trans' hBr⟩
end Go.Proofs.YtfdpkmpnfalggaaDoor
