/- The tied card of CheckKinds: for every expression and every list of keys the law answers true and leaves its arguments as they were; unicode.White_Space and strings.asciiSpace read as the program's text lays them (tied). No further condition. -/
import Derived.Test.YtfdpkmpnfalggaaDoorRw
namespace Go.Proofs.YtfdpkmpnfalggaaDoor
open Go
theorem checkKinds_card : Rows.CheckKindsCardSaid :=
  Claim7.holds_tied_plain_at .later [] [.listed, .data] true Rows.checkKindsCard.stood.harness true
    checkKinds_holds (fun _ h => by cases h) (by kernel_rfl) (fun _ h => by cases h) checkKinds_row_tie rfl ⟨rfl, rfl⟩ (by kernel_rfl) rfl
    (fun f fn hf hfn => by
      obtain rfl : f = 3 := Option.some.inj ((show Tryd.prog.funcNamed "puppeteer/puppeteerlaw13.CheckKinds" = some 3 by kernel_rfl).symm.trans hf) |>.symm
      obtain rfl : fn = Tryd.f3 := (Option.some.inj (Tryd.func3.symm.trans hfn)).symm
      exact ⟨by kernel_rfl, fun j t ht => by
        rw [Tryd.params3] at ht
        have h3 : t = 24 ∨ t = 25 := by
          rcases j with _ | _ | j
          · left; simpa using ht.symm
          · right; simpa using ht.symm
          · simp at ht
        rcases h3 with rfl | rfl
        · exact (show Tryd.prog.wantsStandIn 24 = false by kernel_rfl)
        · exact (show Tryd.prog.wantsStandIn 25 = false by kernel_rfl)⟩)
    (by kernel_rfl)
#print axioms checkKinds_card
end Go.Proofs.YtfdpkmpnfalggaaDoor
