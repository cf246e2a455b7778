/- The row of CheckKinds: for all arguments the law answers true. -/
import Derived.Test.YtfdpkmpnfalggaaDoorOp
import Derived.Test.YtfdpkmpnfalggaaDoorTie
import Derived.Test.YtfdpkmpnfalggaaDoorCards
import Derived.SevenTiedAt
import Derived.Lib.LaidTab
import Derived.MakeChecks
import Derived.Carry
import Derived.Lay
namespace Go.Proofs.YtfdpkmpnfalggaaDoor
open Go Go.RowKit Go.ChangeShapes Go.WideShapes

theorem laidOut : laidOutB Tryd.prog = true := by kernel_rfl
theorem own : ownKnob Tryd.prog.godebug = none := by kernel_rfl
theorem spaces_of_laid {W : World} (h : laidMetH Tryd.prog Rows.checkKindsRow.laid W) : Spaces W := by
  rw [Go.MakeChecks.laidMetH_plain _ _ _ (by kernel_rfl)] at h
  obtain ⟨ps, ⟨_, _, _, _, _, q, _, _, _, _, ⟨g', t', cs, fuel, p, q', hg', ht', hvar, hd, _, _⟩, _⟩, _⟩ := h
  obtain rfl := Option.some.inj ((show Tryd.prog.globalNamed "strings.asciiSpace" = some 0 by kernel_rfl).symm.trans hg')
  obtain rfl := Option.some.inj ((show (Tryd.prog.globals[0]?).map (·.type) = some 232 by kernel_rfl).symm.trans ht')
  rw [show (Rows.laid_strings_asciiSpace : DataW Unit) = Lib.tabData .u8 Lib.asciiSpaceTab by kernel_rfl] at hd
  unfold Spaces Lib.TabIs
  rw [hvar, ← Lib.cells_of_tab (n := 256) (e := 5) (zs := Lib.asciiSpaceTab) (k := .u8) (by kernel_rfl) (by kernel_rfl) (by kernel_rfl) (by kernel_rfl) hd]

theorem row_inv {S : Nat → Prop} {w : World} {sz : Nat} {xs : List (List D)} {v : Value} (h : RdV S w (.l sz xs) v) : ∃ A c, v = .slice A xs.length c := by
  cases h with
  | l0 sz A c => exact ⟨A, c, rfl⟩
  | l sz xs b o c f hn hm hs hp hz hc hr => exact ⟨_, _, rfl⟩
theorem expr_agg {S : Nat → Prop} {w : World} {e : Expr} {l : List Value} (h : RdL S w e.d l) : ∃ A c, l = [.int .i64 e.kind, .int .i64 e.n, .string e.name, .slice A e.kids.length c] := by
  rw [Expr.d_eq] at h
  obtain ⟨a, b, c, d, rfl⟩ := four_of (h.1.symm : l.length = 4)
  obtain ⟨A, c', h3⟩ := row_inv (h.2 3 _ _ rfl rfl)
  have h0 := (h.2 0 _ _ rfl rfl).int_inv.1
  have h1 := (h.2 1 _ _ rfl rfl).int_inv.1
  have h2 := (h.2 2 _ _ rfl rfl).str_inv.1
  subst h0 h1 h2 h3
  exact ⟨A, c', by simp⟩

set_option maxRecDepth 100000 in
theorem checkKinds_lifted (os : Os) (started : os.Started) (H : Type) (enc : TypeId × Value → H) :
    ReturnsInHanded {} Tryd.checked os 3 .any (fun w args => (Rows.checkKindsSpec.pre enc Tryd.prog Tryd.f3 [] false w args ∧ laidMetH Tryd.prog Rows.checkKindsRow.laid w) ∧ sizedMet enc Tryd.prog Tryd.f3 (OpenSpec.ofChange Rows.checkKindsSpec) false w args)
      (Rows.checkKindsSpec.post enc Tryd.prog Tryd.f3 false true false false) := by
  refine returnsInHanded_of_change_and (C := Tryd.checked) (X := fun w _ => laidMetH Tryd.prog Rows.checkKindsRow.laid w) (fun _ _ _ hh h => h.of_heap hh) own started (by kernel_rfl) Tryd.func3
    (ChangeSpec.witness_shaped (enc := enc) (C := Tryd.checked) (os := os) (X := fun w _ => laidMetH Tryd.prog Rows.checkKindsRow.laid w) false (World.laidAll Tryd.prog os Rows.checkKindsRow.laid) #[.agg #[.int .i64 0, .int .i64 0, .string ⟨#[]⟩, .slice none 0 0], .slice none 0 0] 8 (World.laidAll_os _ _ _)
      (World.shaped_of_ZipB (by kernel_rfl) (by kernel_rfl)) (by kernel_rfl) (by kernel_rfl) (by kernel_rfl)
      (by rw [MakeChecks.laidMetH_plain _ _ _ (by kernel_rfl)]; exact laidMet_laidAll _ (by kernel_rfl) (by kernel_rfl))) ?_
  intro W base args ds gs before hval0 hW _ _ hL _
  have hval : ∀ (j : Nat) t v, Tryd.f3.params[j]? = some t → args[j]? = some v → Value.okWide Tryd.prog W .any base t v := hval0
  have hW' := hW
  obtain ⟨p, q, hA0, hV0, rfl, hfz, hnd⟩ := hW
  have hA : DataW.TrodAll enc Tryd.prog W 0 (fun _ => true) true Tryd.f3.params.toList args.toList ds p := hA0
  have hV : DataW.TrodVars enc Tryd.prog W (fun _ => true) [] gs q := hV0
  have hsp := spaces_of_laid hL
  rw [Tryd.params3] at hA hval
  obtain ⟨v0, v1, d0, d1, p0, p1, rfl, rfl, rfl, h0, h1⟩ := trodAll_two hA
  have h0k := h0
  have h1k := h1
  have hlt0 : ∀ x ∈ p0, x.block < W.heap.size := fun x hx => hW'.lt x (by simp [hx])
  have hlt1 : ∀ x ∈ p1, x.block < W.heap.size := fun x hx => hW'.lt x (by simp [hx])
  obtain ⟨cs, rfl, _⟩ := okWide_struct Tryd.underlying24 (hval 0 24 v0 rfl rfl)
  obtain ⟨a, len, cap, rfl⟩ := okWide_slice Tryd.underlying25 (hval 1 25 v1 rfl rfl)
  obtain ⟨f0, h0⟩ := h0
  obtain ⟨f1, h1⟩ := h1
  obtain ⟨e, he⟩ := expr_open f0 _ _ h0
  obtain ⟨A, c, hcs⟩ := expr_agg he
  have hcs' : cs = #[.int .i64 e.kind, .int .i64 e.n, .string e.name, .slice A e.kids.length c] := by
    cases cs
    simp only [Value.cells] at hcs
    rw [hcs]
  subst hcs'
  cases f1 with
  | zero => simp [DataW.trod] at h1
  | succ f1 =>
    obtain ⟨l, Al, cl, hl, hlr⟩ := slice_rd Key.d Tryd.underlying25 cells_K (by decide) (fun _ => rfl) (fun cs y hy => key_open f1 cs y hy) h1
    simp only [Value.cells, List.cons.injEq, Value.slice.injEq, and_true] at hl
    obtain ⟨rfl, rfl, rfl⟩ := hl
    refine (law_any l e A c _ W he _ _ _ hlr hsp).mono fun en W' ⟨he', bel⟩ => ?_
    subst he'
    obtain ⟨rfl, rfl⟩ : gs = [] ∧ q = [] := by
      cases gs with
      | nil => exact ⟨rfl, hV⟩
      | cons g r => exact absurd hV (by intro h; cases h)
    have e1 : Rows.checkKindsSpec.fn H ([d0, d1] ++ []) = { results := [.lit (.bool true)], args := [d0, d1] } := by simp [Rows.checkKindsSpec]
    refine ⟨_, rfl, _, _, _, [], p0 ++ p1, [], hW', ?_, ?_, ?_, bel.frame _, fun h => by cases h⟩
    · rw [e1]; exact trodAll_mk1 (shut_bool Tryd.underlying4 true)
    · rw [e1]; exact trodAll_mk2 (Below.trod laidOut (by kernel_rfl) (of_decide_eq_true (by kernel_rfl)) h0k bel hlt0) (Below.trod laidOut (by kernel_rfl) (of_decide_eq_true (by kernel_rfl)) h1k bel hlt1)
    · rw [e1]; rfl

theorem checkKinds_holds : Rows.CheckKindsSaid :=
  OpenClaim.holds_of_wide 3 Tryd.f3 rfl rfl rfl rfl rfl rfl rfl ⟨rfl, rfl, rfl, rfl, rfl⟩ rfl rfl rfl rfl rfl (by kernel_rfl) Tryd.func3 (by kernel_rfl)
    (of_decide_eq_true (by kernel_rfl)) (by unfold Func.isWrapper; rw [if_neg (of_decide_eq_false (by kernel_rfl))]; exact ⟨rfl, rfl⟩)
    (fun os started H enc _ => checkKinds_lifted os started H enc)
#print axioms checkKinds_holds
end Go.Proofs.YtfdpkmpnfalggaaDoor
