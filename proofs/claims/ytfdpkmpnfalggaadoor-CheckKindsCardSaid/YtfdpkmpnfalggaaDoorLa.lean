/- The law CheckKinds by a contract: it answers true. -/
import Derived.Test.YtfdpkmpnfalggaaDoorAl
import Derived.Test.YtfdpkmpnfalggaaDoorBg
import Derived.Test.YtfdpkmpnfalggaaDoorRm
set_option linter.unusedVariables false
set_option linter.unusedSimpArgs false
namespace Go.Proofs.YtfdpkmpnfalggaaDoor
open Go.RowKit

set_option maxHeartbeats 1000000 in
theorem alive_any (w : World) (ht : Spaces w) : Calls Tryd.prog 9 #[] w fun e w' => e = .returned (.bool true) ∧ Below w.heap.size w w' := by
  have hK := fun W => cKind_any [] (.mk 4 0 ByteArray.empty []) none 0 (fun _ => True) W
    ⟨rfl, fun i d v hd hv => by
      rcases i with _ | _ | _ | _ | i
      · cases hd; cases hv; exact .i _ _ (by decide)
      · cases hd; cases hv; exact .i _ _ (by decide)
      · cases hd; cases hv; exact .s _ (by decide)
      · cases hd; cases hv; exact .l0 _ _ _
      · simp [Expr.d] at hd⟩ none 0 (fun _ => True) (.l0 _ _ _)
  have hx : rightB (.mk 4 0 ByteArray.empty []) = true := by decide
  have hk : kindP [] (.mk 4 0 ByteArray.empty []) = (2, 0) := by simp [kindP, plainP]
  rw [hx, if_pos rfl, hk] at hK
  go_enter Tryd.func9, Tryd.ntmps9
  go_wp2_with (first
    | (go_at_call 25; refine (check_nil _).mono ?_; rintro e w1 ⟨rfl, hb1⟩)
    | (go_at_call 11; refine (hK _ (ht.kept hb1)).mono ?_; rintro e w2 ⟨rfl, hb2⟩)
    | (go_at_call 13; refine (num13_any _ _).mono ?_; rintro e w3 ⟨rfl, rfl⟩))
  go_ret
  exact ⟨rfl, hb1.trans' hb2⟩

set_option maxHeartbeats 4000000 in
theorem law_any (l : List Key) (x : Expr) (A : Option Addr) (c : Nat) (S : Nat → Prop) (w : World) (hr : RdL S w x.d [.int .i64 x.kind, .int .i64 x.n, .string x.name, .slice A x.kids.length c])
    (Al : Option Addr) (cl : Nat) (Sl : Nat → Prop) (hl : RdV Sl w (.l 3 (Key.ds l)) (.slice Al l.length cl)) (ht : Spaces w) :
    Calls Tryd.prog 3 #[.agg #[.int .i64 x.kind, .int .i64 x.n, .string x.name, .slice A x.kids.length c], .slice Al l.length cl] w fun e w' => e = .returned (.bool true) ∧ Below w.heap.size w w' := by
  have hB : Below w.heap.size w (w.alloc (.cells #[.int .i64 x.kind, .int .i64 x.n, .string x.name, .slice A x.kids.length c] 24)) := below_alloc' (Below.refl _ _) _
  have hA := alive_any _ (ht.kept hB)
  have hG := fun W h => Big_any x A c S W h
  have hC := fun W h1 h2 h3 => cKind_any l x A c S W h1 Al cl Sl h2 h3
  have hR := fun W h1 h2 => rKind_any l x A c S W h1 Al cl Sl h2
  have hlen := hl.len_le
  have hsz : (w.alloc (.cells #[.int .i64 x.kind, .int .i64 x.n, .string x.name, .slice A x.kids.length c] 24)).heap.size = w.heap.size + 1 := by simp
  generalize (if rightB x then kindP l x else (0, 1)) = kk at hC hR
  by_cases hln : 30 < l.length
  · have hd : decide (30 < (l.length : Int)) = true := by simp; omega
    go_enter Tryd.func3, Tryd.ntmps3
    go_wp2_with (first
    | (go_at_call 9; refine hA.mono ?_; rintro e w1 ⟨rfl, hb1⟩; obtain ⟨q1, q2⟩ := bcell hb1; have hw1 := hB.trans' hb1; have hx1 : w.heap.size < w1.heap.size := (by have := hb1.size; omega))
    | (go_at_call 10; refine (hG _ (hr.blw hw1)).mono ?_; rintro e w2 ⟨bb, rfl, hb2⟩; have hw2 := hb1.trans' hb2; clear q1 q2; cases bb; rotate_left; all_goals skip))
    all_goals (go_ret; exact ⟨rfl, hB.trans' hw2⟩)
  have hd : decide (30 < (l.length : Int)) = false := by simp; omega
  go_enter Tryd.func3, Tryd.ntmps3
  go_wp2_with (first
    | (go_at_call 9; refine hA.mono ?_; rintro e w1 ⟨rfl, hb1⟩; obtain ⟨q1, q2⟩ := bcell hb1; have hw1 := hB.trans' hb1; have hx1 : w.heap.size < w1.heap.size := (by have := hb1.size; omega))
    | (go_at_call 10; refine (hG _ (hr.blw hw1)).mono ?_; rintro e w2 ⟨bb, rfl, hb2⟩; have hw2 := hb1.trans' hb2; clear q1 q2; cases bb; rotate_left; all_goals skip))
  · go_ret
    exact ⟨rfl, hB.trans' hw2⟩
  clear hA hG hb1 hb2 hw1 hx1
  go_loopw [7, 8] (fun i _ wr => (∃ k : Nat, k ≤ l.length ∧ i = .int .i64 k) ∧ Below (w.alloc (.cells #[.int .i64 x.kind, .int .i64 x.n, .string x.name, .slice A x.kids.length c] 24)).heap.size (w.alloc (.cells #[.int .i64 x.kind, .int .i64 x.n, .string x.name, .slice A x.kids.length c] 24)) wr) (fun i _ _ => l.length - (intOf i).toNat)
  case atStart => exact ⟨⟨0, Nat.zero_le _, rfl⟩, hw2⟩
  case round =>
    obtain ⟨⟨k, hk, rfl⟩, hBr⟩ := hrel
    obtain ⟨q1, q2⟩ := bcell hBr
    have hBw := hB.trans' hBr
    by_cases hlt : k < l.length
    · go_wp2
      go_loopw [8] (fun j ws => (∃ k2 : Nat, k2 ≤ k ∧ j = .int .i64 k2) ∧ Below (w.alloc (.cells #[.int .i64 x.kind, .int .i64 x.n, .string x.name, .slice A x.kids.length c] 24)).heap.size (w.alloc (.cells #[.int .i64 x.kind, .int .i64 x.n, .string x.name, .slice A x.kids.length c] 24)) ws) (fun j _ => k - (intOf j).toNat)
      case atStart => exact ⟨⟨0, Nat.zero_le _, rfl⟩, hBr⟩
      case round =>
        obtain ⟨⟨k2, hk2, rfl⟩, hBs⟩ := hrel
        have hBv := hB.trans' hBs
        by_cases h2 : k2 < k
        · obtain ⟨b, o, rfl, _, hb0, _, d0, d1, d2, hs', hk'⟩ := key_at (hl.blw hBv) (show k2 < l.length by omega)
          obtain ⟨b', o', hbb, _, hb0', _, e0, e1, e2, _, _⟩ := key_at (hl.blw hBv) hlt
          cases hbb
          cases hx : (l[k2].name.toList == l[k].name.toList)
          · go_wp2_with fail
            go_quiet (fail)
            go_wp2
            go_roundw
            case rel => exact ⟨⟨k2 + 1, by omega, by go_num⟩, by with_reducible repeat (first | exact hBs | apply below_drewN' | apply below_alloc')⟩
            case measure => simp only [intOf]; omega
          · go_wp2_with fail
            go_quiet (fail)
            go_wp2
            go_ret
            exact ⟨rfl, by with_reducible repeat (first | exact hBv | apply below_drewN' | apply below_alloc')⟩
        · obtain ⟨b', o', rfl, _, hb0', _, e0, e1, e2, _, _⟩ := key_at (hl.blw hBv) hlt
          cases h3 : decide (l[k].kind < 0)
          · cases h4 : decide (4 < l[k].kind)
            · go_wp2
              go_roundw
              case rel => exact ⟨⟨k + 1, by omega, by go_num⟩, hBs⟩
              case measure => simp only [intOf]; omega
            · go_wp2
              go_ret
              exact ⟨rfl, hBv⟩
          · go_wp2
            go_ret
            exact ⟨rfl, hBv⟩
    · go_wp2_with (first
        | (go_at_call 11; refine (hC _ (hr.blw hBw) (hl.blw hBw) (ht.kept hBw)).mono ?_; rintro e w3 ⟨rfl, hb3⟩; obtain ⟨z1, z2⟩ := bcell hb3; have hx3 : w.heap.size < wr.heap.size := (by have := hBr.size; omega); have hw3 := hBw.trans' hb3)
        | (go_at_call 12; refine (hR _ (hr.blw hw3) (hl.blw hw3)).mono ?_; rintro e w4 ⟨rfl, hb4⟩)
        | (go_at_call 13; refine (num13_any _ _).mono ?_; rintro e w5 ⟨rfl, rfl⟩))
      go_ret
      exact ⟨ret_bool (by simp), hw3.trans' hb4⟩
end Go.Proofs.YtfdpkmpnfalggaaDoor
