/- The law AeadSeals walked. -/
import Derived.Test.YtichgiecohhmgaaDoorDoc6
namespace Go.Proofs.YtichgiecohhmgaaDoor
open Go.RowKit Go.Lib Go.Joins Base
set_option linter.unusedVariables false
set_option linter.unusedSimpArgs false

set_option maxRecDepth 100000 in
set_option maxHeartbeats 1000000 in
theorem seals_law {w : World} (key : ByteArray) (hkey : key.size ≤ 140737488351232) (nonce : ByteArray) (hnonce : nonce.size ≤ 140737488351232) (a : ByteArray) (ha0 : a.size ≤ 140737488351232) (p : ByteArray) (hp0 : p.size ≤ 140737488351232) (hP : Places w) (ht : Rounds w) :
    Calls Tryd.prog 3 #[.string key, .string nonce, .string a, .string p] w fun e w' => e = .returned (.bool true) ∧ Fr [] w w' := by
  obtain ⟨s, c, ⟨h1, h2⟩, _⟩ := seal_both key nonce a p
  go_enter Tryd.func3, Tryd.ntmps3
  go_wp2_with (first
    | (go_at_call 10; refine (h1 _ ht).mono ?_; clear h1; rintro e w1 ⟨rfl, f1⟩)
    | (go_at_call 11; refine (h2 _ (hP.keep f1 (by simp))).mono ?_; clear h2; rintro e w2 ⟨rfl, f2⟩)
    | (go_at_call 12; refine (num6_any c _).mono ?_; rintro e w3 ⟨rfl, rfl⟩)
    | fail)
  go_ret
  exact ⟨rfl, f1.trans f2⟩
end Go.Proofs.YtichgiecohhmgaaDoor
