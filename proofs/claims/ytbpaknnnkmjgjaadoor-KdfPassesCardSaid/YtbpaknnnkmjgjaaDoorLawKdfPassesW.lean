/- The law KdfPasses walked. -/
import Derived.Test.YtbpaknnnkmjgjaaDoorKdfPass
import Derived.Test.YtbpaknnnkmjgjaaDoorRef3P
import Derived.Test.YtbpaknnnkmjgjaaDoorLawKdfCutsW
namespace Go.Proofs.YtbpaknnnkmjgjaaDoor
open Go.RowKit Go.Lib Go.Joins Base
set_option linter.unusedVariables false
set_option linter.unusedSimpArgs false

/-- Both answers are one, for any numbers. -/
theorem pass_both (pass salt : ByteArray) (hp : pass.size ≤ 140737488355328) (hs : salt.size ≤ 140737488351232) (r n : Int) : ∃ (S : ByteArray) (E : Int),
    (∀ w, First w → Roots w → Calls Tryd.prog 32 #[.string pass, .string salt, .int .i64 r, .int .i64 n] w fun e w' => e = .returned (.tuple #[.string S, .int .i64 E]) ∧ Fr [] w w') ∧
    (∀ w, Powers w → RefRoots w → Calls Tryd.prog 33 #[.string pass, .string salt, .int .i64 r, .int .i64 n] w fun e w' => e = .returned (.tuple #[.string S, .int .i64 E]) ∧ Fr [] w w') := by
  by_cases h : (r < 1 ∨ 4096 < r) ∨ (n < 0 ∨ 1024 < n)
  · exact ⟨_, _, fun w _ _ => pass_bad pass salt r n h w, fun w _ _ => rpass_bad pass salt r n h w⟩
  · obtain ⟨m, rfl⟩ : ∃ m : Nat, n = m := ⟨n.toNat, by omega⟩
    obtain ⟨k, rfl⟩ : ∃ k : Nat, r = k := ⟨r.toNat, by omega⟩
    exact ⟨_, _, fun w h1 h2 => pass_any pass salt (by omega) hs k m (by omega) (by omega) (by omega) w h1 h2, fun w h1 h2 => rpass_any pass salt hp hs k m (by omega) (by omega) (by omega) w h1 h2⟩

set_option maxRecDepth 100000 in
set_option maxHeartbeats 1000000 in
theorem passes_law {w : World} (pass : ByteArray) (hp : pass.size ≤ 140737488351232) (salt : ByteArray) (hs : salt.size ≤ 140737488351232) (r : Int) (hr : (Lit.int .i64 r).wf = true) (n : Int) (hn : (Lit.int .i64 n).wf = true) (hQ : RefRoots w) (hP : Powers w) (hI : First w) (hR : Roots w) :
    Calls Tryd.prog 8 #[.string pass, .string salt, .int .i64 r, .int .i64 n] w fun e w' => e = .returned (.bool true) ∧ Fr [] w w' := by
  obtain ⟨S1, E1, c3, c4⟩ := pass_both pass salt (by omega) hs r n
  have hF := Fr.refl [] w
  clear hp hs hr hn
  go_enter Tryd.func8, Tryd.ntmps8
  go_wp2_with (first
    | (go_at_call 32; refine (c3 _ (hI.keep hF) (hR.keep hF (by simp))).mono ?_; clear c3; rintro e w3 ⟨rfl, f3⟩; have hF := hF.trans f3)
    | (go_at_call 33; refine (c4 _ (hP.keep hF) (hQ.keep hF)).mono ?_; clear c4; rintro e w4 ⟨rfl, f4⟩; have hF := hF.trans f4)
    | (go_at_call 21; refine (num3_any _ _).mono ?_; rintro e w7 ⟨rfl, rfl⟩)
    | fail)
  go_ret
  exact ⟨rfl, hF⟩
end Go.Proofs.YtbpaknnnkmjgjaaDoor
