/- The law KdfExpands walked. -/
import Derived.Test.YtbpaknnnkmjgjaaDoorKdfExp
import Derived.Test.YtbpaknnnkmjgjaaDoorRef3X
import Derived.Test.YtbpaknnnkmjgjaaDoorLawKdfCutsW
namespace Go.Proofs.YtbpaknnnkmjgjaaDoor
open Go.RowKit Go.Lib Go.Joins Base
set_option linter.unusedVariables false
set_option linter.unusedSimpArgs false

/-- Both answers are one, for any number. -/
theorem expand_both (prk info : ByteArray) (hp : prk.size ≤ 140737488355328) (hf : info.size ≤ 140737488351232) (n : Int) : ∃ (S : ByteArray) (E : Int),
    (∀ w, First w → Roots w → Calls Tryd.prog 30 #[.string prk, .string info, .int .i64 n] w fun e w' => e = .returned (.tuple #[.string S, .int .i64 E]) ∧ Fr [] w w') ∧
    (∀ w, Powers w → RefRoots w → Calls Tryd.prog 31 #[.string prk, .string info, .int .i64 n] w fun e w' => e = .returned (.tuple #[.string S, .int .i64 E]) ∧ Fr [] w w') := by
  by_cases h : n < 0 ∨ 8160 < n
  · exact ⟨_, _, fun w _ _ => expand_bad prk info n h w, fun w _ _ => rexpand_bad prk info n h w⟩
  · obtain ⟨m, rfl⟩ : ∃ m : Nat, n = m := ⟨n.toNat, by omega⟩
    exact ⟨_, _, fun w h1 h2 => expand_any prk info (by omega) hf m (by omega) w h1 h2, fun w h1 h2 => rexpand_any prk info hp hf m (by omega) w h1 h2⟩

set_option maxRecDepth 100000 in
set_option maxHeartbeats 4000000 in
theorem expands_law {w : World} (salt : ByteArray) (hs : salt.size ≤ 140737488351232) (secret : ByteArray) (ht : secret.size ≤ 140737488351232) (info : ByteArray) (hf : info.size ≤ 140737488351232) (n : Int) (hn : (Lit.int .i64 n).wf = true) (hQ : RefRoots w) (hP : Powers w) (hI : First w) (hR : Roots w) :
    Calls Tryd.prog 7 #[.string salt, .string secret, .string info, .int .i64 n] w fun e w' => e = .returned (.bool true) ∧ Fr [] w w' := by
  have c1 := fun w h1 h2 => extract_any salt secret (by omega) (by omega) w h1 h2
  have c2 := fun w h1 h2 => rextract_any salt secret (by omega) (by omega) w h1 h2
  obtain ⟨p, hp⟩ : ∃ p : ByteArray, p = ⟨(hmacL salt.data.toList secret.data.toList).toArray⟩ := ⟨_, rfl⟩
  have hpl : p.size = 32 := by rw [hp]; show (hmacL salt.data.toList secret.data.toList).toArray.size = 32; rw [List.size_toArray, hmacL_len]
  rw [← hp] at c1 c2
  obtain ⟨S1, E1, c3, c4⟩ := expand_both p info (by omega) hf n
  obtain ⟨S2, E2, c5, c6⟩ := expand_both secret info (by omega) hf n
  have hF := Fr.refl [] w
  have mk1 : True := trivial
  have mk2 : True := trivial
  clear hp hpl hs ht hf hn
  go_enter Tryd.func7, Tryd.ntmps7
  go_wp2_with (first
    | (go_at_call 28; refine (c1 _ (hI.keep hF) (hR.keep hF (by simp))).mono ?_; clear c1; rintro e w1 ⟨rfl, f1⟩; have hF := hF.trans f1)
    | (go_at_call 29; refine (c2 _ (hP.keep hF) (hQ.keep hF)).mono ?_; clear c2; rintro e w2 ⟨rfl, f2⟩; have hF := hF.trans f2)
    | (go_at_call 30; clear mk1; refine (c3 _ (hI.keep hF) (hR.keep hF (by simp))).mono ?_; clear c3; rintro e w3 ⟨rfl, f3⟩; have hF := hF.trans f3)
    | (go_at_call 31; clear mk2; refine (c4 _ (hP.keep hF) (hQ.keep hF)).mono ?_; clear c4; rintro e w4 ⟨rfl, f4⟩; have hF := hF.trans f4)
    | (go_at_call 30; refine (c5 _ (hI.keep hF) (hR.keep hF (by simp))).mono ?_; clear c5; rintro e w5 ⟨rfl, f5⟩; have hF := hF.trans f5)
    | (go_at_call 31; refine (c6 _ (hP.keep hF) (hQ.keep hF)).mono ?_; clear c6; rintro e w6 ⟨rfl, f6⟩; have hF := hF.trans f6)
    | (go_at_call 21; refine (num3_any _ _).mono ?_; rintro e w7 ⟨rfl, rfl⟩)
    | fail)
  go_ret
  exact ⟨rfl, hF⟩
end Go.Proofs.YtbpaknnnkmjgjaaDoor
