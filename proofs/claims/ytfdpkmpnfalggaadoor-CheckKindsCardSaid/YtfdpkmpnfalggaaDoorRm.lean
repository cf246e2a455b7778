/- The reference's Kind by a contract. -/
import Derived.Test.YtfdpkmpnfalggaaDoorRk
set_option linter.unusedVariables false
set_option linter.unusedSimpArgs false
namespace Go.Proofs.YtfdpkmpnfalggaaDoor
open Go.RowKit

theorem rKind_any (l : List Key) (x : Expr) (A : Option Addr) (c : Nat) (S : Nat → Prop) (w : World) (hr : RdL S w x.d [.int .i64 x.kind, .int .i64 x.n, .string x.name, .slice A x.kids.length c])
    (Al : Option Addr) (cl : Nat) (Sl : Nat → Prop) (hl : RdV Sl w (.l 3 (Key.ds l)) (.slice Al l.length cl)) :
    Calls Tryd.prog 12 #[.agg #[.int .i64 x.kind, .int .i64 x.n, .string x.name, .slice A x.kids.length c], .slice Al l.length cl] w fun e w' =>
      e = .returned (.tuple #[.int .i64 (if rightB x then kindP l x else (0, 1)).1, .int .i64 (if rightB x then kindP l x else (0, 1)).2]) ∧ Below w.heap.size w w' := by
  have hB : ∀ o, Below w.heap.size w (w.alloc o) := fun o => below_alloc' (Below.refl _ _) _
  have hR := fun W hW => rRight_any x A c S W hW
  have r3 := (by have h := hr; rw [Expr.d_eq] at h; exact h.2 3 _ _ rfl rfl : RdV S w (.l 4 (Expr.ds x.kids)) (.slice A x.kids.length c))
  cases hx : rightB x
  · go_enter Tryd.func12, Tryd.ntmps12
    go_wp2_with (go_at_call 27; refine (hR _ (hr.blw (hB _))).mono ?_; rw [hx]; rintro e w' ⟨rfl, hb'⟩; have hB3 := (hB _).trans' hb')
    go_ret2
    exact ⟨rfl, hB3⟩
  · have hK := fun W hW hWl => rkind_any l 40 x.kind x.n x.name x.kids (by rw [Expr.eta]; exact hx) A c S W hW Al cl Sl hWl
    have hv : ∀ W : World, Below w.heap.size w W → RdV S W (.l 4 (Expr.ds x.kids)) (.slice A x.kids.length c) := fun W h => r3.blw h
    go_enter Tryd.func12, Tryd.ntmps12
    go_wp2_with (first
      | (go_at_call 27; refine (hR _ (hr.blw (hB _))).mono ?_; rw [hx]; rintro e w' ⟨rfl, hb'⟩; obtain ⟨q1, q2⟩ := bcell hb'; have hB3 := (hB _).trans' hb')
      | (go_at_call 28; refine (hK _ (hv _ hB3) (hl.blw hB3)).mono ?_; rw [Expr.eta]; rintro e w' ⟨rfl, hb''⟩; have hB4 := hB3.trans' hb''))
    go_ret2
    exact ⟨rfl, hB4⟩
end Go.Proofs.YtfdpkmpnfalggaaDoor
