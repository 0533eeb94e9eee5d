/- The law ChachaKnown walked. -/
import Derived.Test.YtmgfhamfbdaeiaaDoorKnown
namespace Go.Proofs.YtmgfhamfbdaeiaaDoor
open Go.RowKit Go.Lib Base
theorem known_law (w : World) (hR : Rounds w) : Calls Tryd.prog 6 #[] w fun e w' => e = .returned (.bool true) ∧ Fr [] w w' := by
  go_enter Tryd.func6, Tryd.ntmps6
  go_wp2_with (first
    | (go_at_call 26; refine (known_any _ hR).mono ?_; rintro e w1 ⟨rfl, f1⟩)
    | fail)
  go_ret
  exact ⟨rfl, f1⟩
end Go.Proofs.YtmgfhamfbdaeiaaDoor
