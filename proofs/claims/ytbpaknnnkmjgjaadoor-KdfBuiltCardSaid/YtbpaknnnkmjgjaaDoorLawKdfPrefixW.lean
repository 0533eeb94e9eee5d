/- The law KdfPrefix walked. -/
import Derived.Test.YtbpaknnnkmjgjaaDoorKdfPass
import Derived.Test.YtbpaknnnkmjgjaaDoorLawKdfCutsW
namespace Go.Proofs.YtbpaknnnkmjgjaaDoor
open Go.RowKit Go.Lib Go.Joins Base
set_option linter.unusedVariables false
set_option linter.unusedSimpArgs false

theorem expA_take (K I : List UInt8) (i : Nat) : ∀ j, i ≤ j → (expA K I j).take (32 * i) = expA K I i
  | 0, h => by rw [Nat.le_zero.1 h]; rfl
  | j + 1, h => by
    have hl := expA_len K I j
    rcases Nat.lt_or_ge j i with h' | h'
    · obtain rfl : i = j + 1 := by omega
      rw [List.take_of_length_le (by rw [expA_len]; omega)]
    · rw [expA, List.take_append_of_le_length (by omega)]
      exact expA_take K I i j h'
theorem pbA_take (K S : List UInt8) (r i : Nat) : ∀ j, i ≤ j → (pbA K S r j).take (32 * i) = pbA K S r i
  | 0, h => by rw [Nat.le_zero.1 h]; rfl
  | j + 1, h => by
    have hl := pbA_len K S r j
    rcases Nat.lt_or_ge j i with h' | h'
    · obtain rfl : i = j + 1 := by omega
      rw [List.take_of_length_le (by rw [pbA_len]; omega)]
    · rw [pbA, List.take_append_of_le_length (by omega)]
      exact pbA_take K S r i j h'
theorem piecesN_mono {m n : Nat} (h : m ≤ n) : piecesN m ≤ piecesN n := by unfold piecesN; omega
theorem piecesN_le (m : Nat) : m ≤ 32 * piecesN m := by unfold piecesN; omega
theorem expL_take (K I : List UInt8) (m n : Nat) (h : m ≤ n) : (expL K I n).take m = expL K I m := by
  unfold expL
  rw [List.take_take, Nat.min_eq_left h, ← expA_take K I _ _ (piecesN_mono h), List.take_take, Nat.min_eq_left (piecesN_le m)]
theorem pbL_take (K S : List UInt8) (r m n : Nat) (h : m ≤ n) : (pbL K S r n).take m = pbL K S r m := by
  unfold pbL
  rw [List.take_take, Nat.min_eq_left h, ← pbA_take K S r _ _ (piecesN_mono h), List.take_take, Nat.min_eq_left (piecesN_le m)]

theorem expand_pre (prk info : ByteArray) (hp : prk.size ≤ 1152921504606846976) (hf : info.size ≤ 140737488351232) (m n : Nat) (hm : m ≤ n) (hn : n ≤ 8160) : ∃ A B : ByteArray, A.size = m ∧ B.size = n ∧ B.extract 0 m = A ∧
    (∀ w, First w → Roots w → Calls Tryd.prog 30 #[.string prk, .string info, .int .i64 m] w fun e w' => e = .returned (.tuple #[.string A, .int .i64 0]) ∧ Fr [] w w') ∧
    (∀ w, First w → Roots w → Calls Tryd.prog 30 #[.string prk, .string info, .int .i64 n] w fun e w' => e = .returned (.tuple #[.string B, .int .i64 0]) ∧ Fr [] w w') :=
  ⟨⟨(expL prk.data.toList info.data.toList m).toArray⟩, ⟨(expL prk.data.toList info.data.toList n).toArray⟩, by show (expL _ _ m).toArray.size = m; rw [List.size_toArray, expL_len], by show (expL _ _ n).toArray.size = n; rw [List.size_toArray, expL_len], by rw [str_take, expL_take _ _ _ _ hm],
    fun w h1 h2 => expand_any prk info hp hf m (by omega) w h1 h2, fun w h1 h2 => expand_any prk info hp hf n hn w h1 h2⟩
theorem pass_pre (pass salt : ByteArray) (hp : pass.size ≤ 1152921504606846976) (hs : salt.size ≤ 140737488351232) (r m n : Nat) (hr1 : 1 ≤ r) (hr : r ≤ 4096) (hm : m ≤ n) (hn : n ≤ 1024) : ∃ A B : ByteArray, A.size = m ∧ B.size = n ∧ B.extract 0 m = A ∧
    (∀ w, First w → Roots w → Calls Tryd.prog 32 #[.string pass, .string salt, .int .i64 r, .int .i64 m] w fun e w' => e = .returned (.tuple #[.string A, .int .i64 0]) ∧ Fr [] w w') ∧
    (∀ w, First w → Roots w → Calls Tryd.prog 32 #[.string pass, .string salt, .int .i64 r, .int .i64 n] w fun e w' => e = .returned (.tuple #[.string B, .int .i64 0]) ∧ Fr [] w w') :=
  ⟨⟨(pbL pass.data.toList salt.data.toList r m).toArray⟩, ⟨(pbL pass.data.toList salt.data.toList r n).toArray⟩, by show (pbL _ _ r m).toArray.size = m; rw [List.size_toArray, pbL_len], by show (pbL _ _ r n).toArray.size = n; rw [List.size_toArray, pbL_len], by rw [str_take, pbL_take _ _ _ _ _ hm],
    fun w h1 h2 => pass_any pass salt hp hs r m hr1 hr (by omega) w h1 h2, fun w h1 h2 => pass_any pass salt hp hs r n hr1 hr hn w h1 h2⟩
theorem int_range {n : Int} (h : (Lit.int .i64 n).wf = true) : -9223372036854775808 ≤ n ∧ n ≤ 9223372036854775807 := by
  have := h
  simp [Lit.wf, IntKind.min, IntKind.max, IntKind.signed, IntKind.bits] at this
  omega

set_option maxRecDepth 100000 in
set_option maxHeartbeats 4000000 in
theorem prefix_law {w : World} (key : ByteArray) (hk : key.size ≤ 140737488351232) (salt : ByteArray) (hs : salt.size ≤ 140737488351232) (few : Int) (h1 : (Lit.int .i64 few).wf = true) (many : Int) (h2 : (Lit.int .i64 many).wf = true) (rounds : Int) (h3 : (Lit.int .i64 rounds).wf = true) (hI : First w) (hR : Roots w) :
    Calls Tryd.prog 9 #[.string key, .string salt, .int .i64 few, .int .i64 many, .int .i64 rounds] w fun e w' => e = .returned (.bool true) ∧ Fr [] w w' := by
  have c1 := fun w => clipped_any many 0 1024 (int_range h2) (by omega) (by omega) (by omega) w
  have c2 := fun (N : Nat) (hN : N ≤ 1024) w => clipped_any few 0 N (int_range h1) (by omega) (by omega) (by omega) w
  have c3 := fun w => clipped_any rounds 1 8 (int_range h3) (by omega) (by omega) (by omega) w
  have hF := Fr.refl [] w
  have mk1 : True := trivial
  have mk2 : True := trivial
  have mk3 : True := trivial
  have mk4 : True := trivial
  have mk5 : True := trivial
  have mk6 : True := trivial
  have HL := Lib.hid (And.intro hk hs)
  clear h1 h2 h3 hk hs
  go_enter Tryd.func9, Tryd.ntmps9
  go_wp2_with (first
    | (go_at_call 17; clear mk1; refine (c1 _).mono ?_; clear c1; rintro e w1 ⟨n, hn0, hn1, rfl, f1⟩; obtain ⟨N, rfl⟩ : ∃ N : Nat, n = N := ⟨n.toNat, (by omega)⟩; have hN : N ≤ 1024 := (by omega); have hF := hF.trans f1)
    | (go_at_call 17; clear mk2; refine (c2 N hN _).mono ?_; clear c2; rintro e w2 ⟨m, hm0, hm1, rfl, f2⟩; obtain ⟨M, rfl⟩ : ∃ M : Nat, m = M := ⟨m.toNat, (by omega)⟩; have hM : M ≤ N := (by omega); have hF := hF.trans f2)
    | (go_at_call 17; refine (c3 _).mono ?_; clear c3; rintro e w3 ⟨r, hr0, hr1, rfl, f3⟩; obtain ⟨R, rfl⟩ : ∃ R : Nat, r = R := ⟨r.toNat, (by omega)⟩; have hR0 : 1 ≤ R := (by omega); have hR8 : R ≤ 8 := (by omega); have hF := hF.trans f3; obtain ⟨hks, hss⟩ := HL.out; obtain ⟨A, B, hAs, hBs, hAB, cA, cB⟩ := expand_pre key salt (by omega) hss M N hM (by omega); obtain ⟨C, D, hCs, hDs, hCD, cC, cD⟩ := pass_pre key salt (by omega) hss R M N hR0 (by omega) hM hN; have cX := fun w => expand_bad key salt (8161 + (N : Int)) (.inr (by omega)) w; have cY := fun w => pass_bad key salt R (1025 + (N : Int)) (.inr (.inr (by omega))) w; have cZ := fun w => pass_bad key salt (4096 + (R : Int)) N (.inl (.inr (by omega))) w; rw [if_neg (by omega)] at cY; rw [if_pos (by omega)] at cZ; have w1 : IntKind.i64.wrap (8161 + (N : Int)) = 8161 + N := IntWalk.i64_in _ (by omega); have w2 : IntKind.i64.wrap (1025 + (N : Int)) = 1025 + N := IntWalk.i64_in _ (by omega); have w3 : IntKind.i64.wrap (4096 + (R : Int)) = 4096 + R := IntWalk.i64_in _ (by omega); clear hks hss)
    | (go_at_call 30; clear mk3; refine (cA _ (hI.keep hF) (hR.keep hF (by simp))).mono ?_; clear cA; rintro e w4 ⟨rfl, f4⟩; have hF := hF.trans f4)
    | (go_at_call 30; clear mk4; refine (cB _ (hI.keep hF) (hR.keep hF (by simp))).mono ?_; clear cB; rintro e w5 ⟨rfl, f5⟩; have hF := hF.trans f5)
    | (go_at_call 30; refine (cX _).mono ?_; clear cX; rintro e w6 ⟨rfl, f6⟩; have hF := hF.trans f6)
    | (go_at_call 32; clear mk5; refine (cC _ (hI.keep hF) (hR.keep hF (by simp))).mono ?_; clear cC; rintro e w7 ⟨rfl, f7⟩; have hF := hF.trans f7)
    | (go_at_call 32; clear mk6; refine (cD _ (hI.keep hF) (hR.keep hF (by simp))).mono ?_; clear cD; rintro e w8 ⟨rfl, f8⟩; have hF := hF.trans f8)
    | (go_at_call 32; refine (cY _).mono ?_; clear cY; rintro e w9 ⟨rfl, f9⟩; have hF := hF.trans f9)
    | (go_at_call 32; refine (cZ _).mono ?_; clear cZ; rintro e w10 ⟨rfl, f10⟩; have hF := hF.trans f10)
    | (go_at_call 21; refine (num3_any _ _).mono ?_; rintro e w7 ⟨rfl, rfl⟩)
    | fail)
  go_ret
  exact ⟨rfl, hF⟩
end Go.Proofs.YtbpaknnnkmjgjaaDoor
