/- The law ShaKnown walked, and the law's own small function known. -/
import Derived.Test.YtkagmoaapampgaaDoorShaSums
import Derived.Test.YtkagmoaapampgaaDoorShaRows
import Derived.Test.YtkagmoaapampgaaDoorHexW
namespace Go.Proofs.YtkagmoaapampgaaDoor
open Go.RowKit Go.Lib Go.Joins Base
set_option linter.unusedVariables false
set_option linter.unusedSimpArgs false

theorem Texts.ofAt {w : World} {g : Nat} {T : TypeId} {ps : List ByteArray} (h : At w g T (ps.map Value.string)) : Texts w (some ⟨g, 0, none⟩) ps := by
  intro j s hj
  refine ⟨g, 0, rfl, ?_⟩
  rw [Nat.zero_add, h.cell, List.getElem?_map, hj]; rfl
theorem Texts.nil (w : World) (ad : Option Addr) : Texts w ad [] := by
  intro j s hj; simp at hj

/-- Hex of the program, its contract with a known answer. -/
theorem hexOf (l : List UInt8) (hl : l.length ≤ 4194304) (r : List UInt8) (hr : hexL l = r) (w : World) :
    Calls Tryd.prog 15 #[.string ⟨l.toArray⟩] w fun e w' => e = .returned (.string ⟨r.toArray⟩) ∧ Fr [] w w' := by
  have := hex_any ⟨l.toArray⟩ (by show l.toArray.size ≤ _; rw [List.size_toArray]; exact hl) w
  rw [← hr]; exact this
set_option maxRecDepth 100000 in
set_option maxHeartbeats 1000000 in
theorem known_any (w : World) (hI : First w) (hR : Roots w) : Calls Tryd.prog 14 #[] w fun e w' => e = .returned (.bool true) ∧ Fr [] w w' := by
  have hS0 : ∀ w, First w → Roots w → Calls Tryd.prog 10 #[.slice none 0 0] w fun e w' => e = .returned (.string ⟨(shaL []).toArray⟩) ∧ Fr [] w w' := fun w h1 h2 => sum_any [] none 0 (by simp [joinL]) (by simp) w h1 h2 (Texts.nil _ _)
  have hH0 := fun w => hexOf (shaL []) (by rw [shaL_len]; omega) _ row_empty w
  have hS1 : ∀ w g, First w → Roots w → At w g 9 [.string ⟨#[97, 98]⟩, .string ⟨#[]⟩, .string ⟨#[99]⟩] → Calls Tryd.prog 10 #[.slice (some ⟨g, 0, none⟩) 3 3] w fun e w' => e = .returned (.string ⟨(shaL [97, 98, 99]).toArray⟩) ∧ Fr [] w w' := fun w g h1 h2 h3 => sum_any [⟨#[97, 98]⟩, ⟨#[]⟩, ⟨#[99]⟩] _ 3 (by simp [joinL]) (by simp) w h1 h2 (Texts.ofAt h3)
  have hH1 := fun w => hexOf (shaL [97, 98, 99]) (by rw [shaL_len]; omega) _ row_abc w
  generalize (shaL []).toArray = S0 at hS0 hH0
  generalize (shaL [97, 98, 99]).toArray = S1 at hS1 hH1
  go_enter Tryd.func14, Tryd.ntmps14
  go_wp2_with (first
    | (go_at_call 10; first
      | (refine (hS0 _ hI hR).mono ?_; clear hS0; rintro e w1 ⟨rfl, f1⟩)
      | (refine (hS1 _ _ (hI.keep (f1.trans (f2.trans (Fr.alloc _ _ _)))) (hR.keep (f1.trans (f2.trans (Fr.alloc [] _ _))) (by simp)) (At.alloc_new _ _ _)).mono ?_; rintro e w3 ⟨rfl, f3⟩))
    | (go_at_call 15; first
      | (refine (hH0 _).mono ?_; clear hH0; rintro e w2 ⟨rfl, f2⟩)
      | (refine (hH1 _).mono ?_; rintro e w4 ⟨rfl, f4⟩))
    | fail)
  go_ret
  exact ⟨rfl, (f1.trans (f2.trans (Fr.alloc _ _ _))).trans (f3.trans f4)⟩

set_option maxRecDepth 100000 in
set_option maxHeartbeats 1000000 in
theorem shaKnown_law (w : World) (hI : First w) (hR : Roots w) : Calls Tryd.prog 4 #[] w fun e w' => e = .returned (.bool true) ∧ Fr [] w w' := by
  have hS0 : ∀ w g, First w → Roots w → At w g 9 [.string ⟨#[]⟩] → Calls Tryd.prog 10 #[.slice (some ⟨g, 0, none⟩) 1 1] w fun e w' => e = .returned (.string ⟨(shaL []).toArray⟩) ∧ Fr [] w w' := fun w g h1 h2 h3 => sum_any [⟨#[]⟩] _ 1 (by simp [joinL]) (by simp) w h1 h2 (Texts.ofAt h3)
  have hH0 := fun w => hexOf (shaL []) (by rw [shaL_len]; omega) _ row_empty w
  obtain ⟨L, hL⟩ : ∃ L : List UInt8, L = [97, 98, 99, 100, 98, 99, 100, 101, 99, 100, 101, 102, 100, 101, 102, 103, 101, 102, 103, 104, 102, 103, 104, 105, 103, 104, 105, 106, 104, 105, 106, 107, 105, 106, 107, 108, 106, 107, 108, 109, 107, 108, 109, 110, 108, 109, 110, 111, 109, 110, 111, 112, 110, 111, 112, 113] := ⟨_, rfl⟩
  have hlen : L.length = 56 := by rw [hL]; rfl
  have hrow := row_long
  rw [← hL] at hrow
  have hS1 : ∀ w g, First w → Roots w → At w g 9 [.string ⟨L.toArray⟩] → Calls Tryd.prog 10 #[.slice (some ⟨g, 0, none⟩) 1 1] w fun e w' => e = .returned (.string ⟨(shaL L).toArray⟩) ∧ Fr [] w w' := by
    intro w g h1 h2 h3
    have e : joinL [⟨L.toArray⟩] = L := by simp [joinL]
    have := sum_any [⟨L.toArray⟩] (some ⟨g, 0, none⟩) 1 (by rw [e, hlen]; omega) (by simp) w h1 h2 (Texts.ofAt h3)
    rw [e] at this
    exact this
  have hH1 := fun w => hexOf (shaL L) (by rw [shaL_len]; omega) _ hrow w
  generalize (shaL []).toArray = S0 at hS0 hH0
  generalize (shaL L).toArray = S1 at hS1 hH1
  subst hL
  clear hrow hlen
  go_enter Tryd.func4, Tryd.ntmps4
  go_wp2_with (first
    | (go_at_call 14; refine (known_any _ hI hR).mono ?_; rintro e w0 ⟨rfl, f0⟩)
    | (go_at_call 10; first
      | (refine (hS1 _ _ (hI.keep (f0.trans (Fr.alloc _ _ _))) (hR.keep (f0.trans (Fr.alloc [] _ _)) (by simp)) (At.alloc_new _ _ _)).mono ?_; clear hS1; rintro e w1 ⟨rfl, f1⟩)
      | (refine (hS0 _ _ (hI.keep ((f0.trans (Fr.alloc _ _ _)).trans ((f1.trans f2).trans (Fr.alloc _ _ _)))) (hR.keep ((f0.trans (Fr.alloc [] _ _)).trans ((f1.trans f2).trans (Fr.alloc _ _ _))) (by simp)) (At.alloc_new _ _ _)).mono ?_; rintro e w3 ⟨rfl, f3⟩))
    | (go_at_call 15; first
      | (refine (hH1 _).mono ?_; clear hH1; rintro e w2 ⟨rfl, f2⟩)
      | (refine (hH0 _).mono ?_; rintro e w4 ⟨rfl, f4⟩))
    | fail)
  go_ret
  exact ⟨rfl, ((f0.trans (Fr.alloc _ _ _)).trans ((f1.trans f2).trans (Fr.alloc _ _ _))).trans (f3.trans f4)⟩
end Go.Proofs.YtkagmoaapampgaaDoor
