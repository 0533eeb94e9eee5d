/- The law ShaHexes walked. -/
import Derived.Test.YtfoigonlbhecdaaRefHexW
namespace Go.Proofs.Ytfoigonlbhecdaa
open Go.RowKit Go.Lib Base
set_option linter.unusedVariables false
set_option linter.unusedSimpArgs false

theorem num2_any (c : Int) (w : World) : Calls Try.prog 10 #[.int .i64 c] w fun e w' => e = .returned (.int .i64 c) ∧ w = w' := by
  go_enter Try.func10, Try.ntmps10
  go_wp2
  go_ret
  exact ⟨rfl, rfl⟩

theorem bulk_one {H : Type} {s : List UInt8} (hk : Rows.uptoSmall H [.lit (.string s)] = true) : s.length ≤ 1048576 := by
  have h := of_decide_eq_true hk
  simp only [Rows.uptoBulkAll, Rows.uptoBulk] at h
  omega

set_option maxRecDepth 100000 in
set_option maxHeartbeats 1000000 in
theorem hexes_law (s : ByteArray) (_ : s.size ≤ 140737488351232) {H : Type} (hk : Rows.uptoSmall H [.lit (.string s.data.toList)] = true) (w : World) :
    Calls Try.prog 3 #[.string s] w fun e w' => e = .returned (.bool true) ∧ Fr [] w w' := by
  have hs : s.size ≤ 1048576 := by have := bulk_one hk; simpa using this
  have u1 := fun w => unhex_any s (by omega) w
  have r1 := fun w => refunhex_any s (by omega) w
  have h1 := fun w => hex_any s (by omega) w
  have h2 := fun w => refhex_any s (by omega) w
  have hb := fun w => unhex_any ⟨(hexL s.data.toList).toArray⟩ (by show (hexL s.data.toList).toArray.size ≤ 4194304; rw [List.size_toArray, hexL_len]; simp; omega) w
  have e1 : unS (⟨(hexL s.data.toList).toArray⟩ : ByteArray).data.toList = s := by
    unfold unS
    rw [show (⟨(hexL s.data.toList).toArray⟩ : ByteArray).data.toList = hexL s.data.toList from List.toList_toArray, unhex_hex]
  have e2 : unC (⟨(hexL s.data.toList).toArray⟩ : ByteArray).data.toList = 0 := by
    unfold unC
    rw [show (⟨(hexL s.data.toList).toArray⟩ : ByteArray).data.toList = hexL s.data.toList from List.toList_toArray, unhex_hex]
  simp only [e1, e2] at hb
  clear e1 e2 hk
  generalize unS s.data.toList = t at u1 r1
  generalize unC s.data.toList = c at u1 r1
  generalize (⟨(hexL s.data.toList).toArray⟩ : ByteArray) = h at h1 h2 hb
  go_enter Try.func3, Try.ntmps3
  go_wp2_with (first
    | (go_at_call 6; refine (h1 _).mono ?_; rintro e w1 ⟨rfl, f1⟩; have hF := f1)
    | (go_at_call 7; first | (refine (u1 _).mono ?_; clear u1; rintro e w2 ⟨rfl, f2⟩; have hF := hF.trans f2) | (refine (hb _).mono ?_; rintro e w2 ⟨rfl, f2⟩; have hF := hF.trans f2))
    | (go_at_call 8; refine (r1 _).mono ?_; rintro e w2 ⟨rfl, f2⟩; have hF := hF.trans f2)
    | (go_at_call 9; refine (h2 _).mono ?_; rintro e w2 ⟨rfl, f2⟩; have hF := hF.trans f2)
    | (go_at_call 10; refine (num2_any _ _).mono ?_; rintro e w3 ⟨rfl, rfl⟩)
    | fail)
  go_ret
  exact ⟨rfl, hF⟩
end Go.Proofs.Ytfoigonlbhecdaa
