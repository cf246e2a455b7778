/- The tied card of ExprDeep: for every two numbers the law answers true and leaves its arguments as they were; the five listed variables of Go's library (unicode.White_Space, strings.asciiSpace, math/bits.deBruijn32tab, deBruijn64tab, internal/strconv.uint64pow10) read as the program's text lays them (tied). No further condition. -/
import Derived.Test.YtfdpkmpnfalggaaDoorDw
namespace Go.Proofs.YtfdpkmpnfalggaaDoor
open Go
theorem exprDeep_card : Rows.ExprDeepCardSaid :=
  Claim7.holds_tied_plain_at .later [] [.data, .data, .data, .listed, .data] true Rows.exprDeepCard.stood.harness true
    exprDeep_holds (fun _ h => by cases h) (by kernel_rfl) (fun _ h => by cases h) exprDeep_row_tie rfl ⟨rfl, rfl⟩ (by kernel_rfl) rfl
    (fun f fn hf hfn => by
      obtain rfl : f = 5 := Option.some.inj ((show Tryd.prog.funcNamed "puppeteer/puppeteerlaw10.ExprDeep" = some 5 by kernel_rfl).symm.trans hf) |>.symm
      obtain rfl : fn = Tryd.f5 := (Option.some.inj (Tryd.func5.symm.trans hfn)).symm
      exact ⟨by kernel_rfl, fun j t ht => by
        rw [Tryd.params5] at ht
        have h3 : t = 3 := by
          rcases j with _ | _ | j
          · simpa using ht.symm
          · simpa using ht.symm
          · simp at ht
        rw [h3]
        exact (show Tryd.prog.wantsStandIn 3 = false by kernel_rfl)⟩)
    (by kernel_rfl)
#print axioms exprDeep_card
end Go.Proofs.YtfdpkmpnfalggaaDoor
