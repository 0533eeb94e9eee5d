/- The walk of TapeNew: it returns true for every text. -/
import Derived.Test.YtchoppeoaehgnaaTapeB
namespace Go.Proofs.Ytchoppeoaehgnaa
open Go.RowKit Go.Lib Base

theorem ret_bool {a b : Bool} (h : a = b) : Ending.returned (.bool a) = .returned (.bool b) := by rw [h]

set_option maxHeartbeats 1000000 in
theorem lawNew_any (s : ByteArray) (hs : s.size ≤ 140737488351232) (w : World) :
    Calls Try.prog 3 #[.string s] w fun e w' => e = .returned (.bool true) ∧ Fr [] w w' := by
  by_cases hb : 67108864 < s.size
  · go_enter Try.func3, Try.ntmps3
    go_wp2_with (first | (go_at_call 8; refine (new_big _ _ hb hs).mono ?_; rintro e w' ⟨rfl, rfl⟩) | (go_at_call 9; refine (num_any _ _).mono ?_; rintro e w' ⟨rfl, rfl⟩))
    go_ret
    exact ⟨rfl, Fr.refl _ _⟩
  · go_enter Try.func3, Try.ntmps3
    go_wp2_with (go_at_call 8; refine (new_any _ _ (by omega)).mono ?_; rintro e w1 ⟨rfl, hf, hT⟩)
    go_wp2_with (first | (go_at_call 9; refine (num_any _ _).mono ?_; rintro e w' ⟨rfl, rfl⟩) | (go_at_call 10; refine (left_any _ _ _ _ _ hT).mono ?_; rintro e w' ⟨rfl, n1, rfl⟩) | (go_at_call 11; refine (drawn_any _ _ _ _ _ (show IsTape (w1.drewN n1) _ _ _ _ from hT)).mono ?_; rintro e w' ⟨rfl, n2, rfl⟩))
    go_ret
    exact ⟨rfl, hf.trans (Fr.drewN _ _ _)⟩
end Go.Proofs.Ytchoppeoaehgnaa
