/- The law ChachaHashes walked. -/
import Derived.Test.YtmgfhamfbdaeiaaDoorRef4D
namespace Go.Proofs.YtmgfhamfbdaeiaaDoor
open Go.RowKit Go.Lib Base
set_option linter.unusedVariables false
set_option linter.unusedSimpArgs false

/-- The program and the document answer alike. -/
theorem hash_both (k n : ByteArray) : ∃ (s : ByteArray) (c : Int), 0 ≤ c ∧ c < 100 ∧
    (∀ w, Rounds w → Calls Tryd.prog 19 #[.string k, .string n] w fun e w' => e = .returned (.tuple #[.string s, .int .i64 c]) ∧ Fr [] w w') ∧
    (∀ w, Places w → Calls Tryd.prog 20 #[.string k, .string n] w fun e w' => e = .returned (.tuple #[.string s, .int .i64 c]) ∧ Fr [] w w') := by
  by_cases hk : k.size = 32
  · by_cases hn : n.size = 16
    · exact ⟨_, 0, by omega, by omega, fun w h => hash_ok k n hk hn w h, fun w h => refhash_ok k n hk hn w h⟩
    · exact ⟨_, 41, by omega, by omega, fun w h => hash_nonce k n hk hn w, fun w h => refhash_nonce k n hk hn w⟩
  · exact ⟨_, 40, by omega, by omega, fun w h => hash_key k n hk w, fun w h => refhash_key k n hk w⟩

theorem num4_any (c : Int) (h0 : 0 ≤ c) (h1 : c < 100) (w : World) : Calls Tryd.prog 21 #[.int .i64 c] w fun e w' => e = .returned (.int .i64 c) ∧ ∃ q, w' = w.drewN q := by
  go_enter Tryd.func21, Tryd.ntmps21
  have hw : IntKind.i64.wrap c = c := IntWalk.i64_in _ (by omega)
  go_wp2_with fail
  go_ret
  exact ⟨rfl, 0, rfl⟩

set_option maxRecDepth 100000 in
set_option maxHeartbeats 1000000 in
theorem hashes_law (k : ByteArray) (_ : k.size ≤ 140737488351232) (n : ByteArray) (_ : n.size ≤ 140737488351232) (w : World) (hP : Places w) (hR : Rounds w) :
    Calls Tryd.prog 3 #[.string k, .string n] w fun e w' => e = .returned (.bool true) ∧ Fr [] w w' := by
  obtain ⟨s, c, c0, c1, h1, h2⟩ := hash_both k n
  go_enter Tryd.func3, Tryd.ntmps3
  go_wp2_with (first
    | (go_at_call 19; refine (h1 _ (hR.keep (Fr.drewN [] w 0) (by simp))).mono ?_; rintro e w1 ⟨rfl, f1⟩)
    | (go_at_call 20; refine (h2 _ (hP.keep f1 (by simp))).mono ?_; rintro e w2 ⟨rfl, f2⟩)
    | (go_at_call 21; refine (num4_any c c0 c1 _).mono ?_; rintro e w3 ⟨rfl, q, rfl⟩)
    | fail)
  go_ret
  exact ⟨rfl, f1.trans (f2.trans (Fr.drewN _ _ _))⟩
end Go.Proofs.YtmgfhamfbdaeiaaDoor
