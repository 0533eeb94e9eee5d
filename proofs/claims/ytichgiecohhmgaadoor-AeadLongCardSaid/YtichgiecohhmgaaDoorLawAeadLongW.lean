/- The law AeadLong walked. -/
import Derived.Test.YtichgiecohhmgaaDoorAeadE
namespace Go.Proofs.YtichgiecohhmgaaDoor
open Go.RowKit Go.Lib Go.Joins Base
set_option linter.unusedVariables false
set_option linter.unusedSimpArgs false

set_option maxRecDepth 100000 in
set_option maxHeartbeats 4000000 in
theorem long_law {w : World} (key : ByteArray) (hkey : key.size ≤ 140737488351232) (nonce : ByteArray) (hnonce : nonce.size ≤ 140737488351232) (a : ByteArray) (ha0 : a.size ≤ 140737488351232) (p : ByteArray) (hp0 : p.size ≤ 140737488351232) (ht : Rounds w) :
    Calls Tryd.prog 8 #[.string key, .string nonce, .string a, .string p] w fun e w' => e = .returned (.bool true) ∧ Fr [] w w' := by
  by_cases hbig : 100000 < a.size ∨ 100000 < p.size
  · by_cases h1 : 100000 < a.size
    · have l1 : (100000 : Int) < a.size := by omega
      clear hbig h1
      go_enter Tryd.func8, Tryd.ntmps8
      go_wp2_with fail
      go_ret
      exact ⟨rfl, Fr.refl _ _⟩
    · have l1 : ¬ (100000 : Int) < a.size := by omega
      have l2 : (100000 : Int) < p.size := by omega
      clear hbig h1
      go_enter Tryd.func8, Tryd.ntmps8
      go_wp2_with fail
      go_ret
      exact ⟨rfl, Fr.refl _ _⟩
  · have l1 : ¬ (100000 : Int) < a.size := by omega
    have l2 : ¬ (100000 : Int) < p.size := by omega
    have ha : a.size ≤ 1048576 := by omega
    have hp : p.size ≤ 1048576 := by omega
    have c1 := sized_any key 32 hkey (by omega)
    rw [show ((32 : Nat) : Int) = 32 from rfl] at c1
    obtain ⟨k, hk⟩ : ∃ k : ByteArray, k = ⟨(sizedL key.data.toList 32).toArray⟩ := ⟨_, rfl⟩
    rw [← hk] at c1
    have hks : k.size = 32 := by rw [hk, size_of, sizedL_len]
    have c2 := sized_any nonce 24 hnonce (by omega)
    rw [show ((24 : Nat) : Int) = 24 from rfl] at c2
    obtain ⟨n, hn⟩ : ∃ n : ByteArray, n = ⟨(sizedL nonce.data.toList 24).toArray⟩ := ⟨_, rfl⟩
    rw [← hn] at c2
    have hns : n.size = 24 := by rw [hn, size_of, sizedL_len]
    have c3 := fun w h => hash_ok k (n.extract 0 16) hks (by rw [ByteArray.size_extract]; omega) w h
    have hK : (⟨((hch k.data.toList (n.extract 0 16).data.toList).flatMap bytes4).toArray⟩ : ByteArray) = sKey k n := by rw [sKey]
    rw [hK] at c3
    have hKs := sKey_size k n hks hns
    have hNs := sNonce_size n hns
    have hN : (⟨#[0, 0, 0, 0]⟩ : ByteArray) ++ n.extract 16 n.size = sNonce n := by rw [sNonce]; rfl
    have hBl : Begins k n (sKey k n) (sNonce n) := fun w h => begin_long k n hks hns w h
    have hBs : Begins (sKey k n) (sNonce n) (sKey k n) (sNonce n) := fun w _ => begin_short _ _ hKs hNs w
    obtain ⟨s, hs⟩ : ∃ s : ByteArray, s = ⟨(sealOf (sKey k n).data.toList (sNonce n).data.toList a.data.toList p.data.toList).toArray⟩ := ⟨_, rfl⟩
    have cS1 := fun w h => seal_any k n a p _ _ hBl hKs hNs ha hp w h
    have cS2 := fun w h => seal_any _ _ a p _ _ hBs hKs hNs ha hp w h
    have cO := fun w h => open_sealed _ _ a p _ _ s hs hBs hKs hNs ha hp w h
    rw [← hs] at cS1 cS2
    generalize sKey k n = K at c3 cS2 cO hKs
    generalize sNonce n = N at hN cS2 cO
    have lk : (K.size : Int) = 32 := by omega
    have ln : (n.size : Int) = 24 := by omega
    have k16 : (16 : Int) ≤ n.size := by omega
    have k1 : ¬ 9223372036854775807 < (⟨#[0, 0, 0, 0]⟩ : ByteArray).size + (n.extract 16 n.size).size := by rw [ByteArray.size_extract]; show ¬ 9223372036854775807 < 4 + _; omega
    have k2 : ¬ 9223372036854775807 < (⟨#[0, 0, 0, 0]⟩ : ByteArray).size + 8 := by show ¬ 9223372036854775807 < 4 + 8; omega
    clear hk hks hn hns hK hs hBl hBs hKs hNs hbig ha hp
    go_enter Tryd.func8, Tryd.ntmps8
    go_wp2_with (first
      | (go_at_call 13; clear hnonce; refine (c1 _).mono ?_; clear c1; rintro e w1 ⟨rfl, f1⟩)
      | (go_at_call 13; refine (c2 _).mono ?_; clear c2; rintro e w2 ⟨rfl, f2⟩; have F2 := f1.trans f2)
      | (go_at_call 22; refine (c3 _ (ht.keep F2 (by simp))).mono ?_; clear c3; rintro e w3 ⟨rfl, f3⟩; have F3 := F2.trans f3)
      | (go_at_call 10; refine (cS1 _ (ht.keep F3 (by simp))).mono ?_; clear cS1; rintro e w4 ⟨rfl, f4⟩; have F4 := F3.trans f4)
      | (go_at_call 10; refine (cS2 _ (ht.keep F4 (by simp))).mono ?_; clear cS2; rintro e w5 ⟨rfl, f5⟩; have F5 := F4.trans f5)
      | (go_at_call 19; refine (cO _ (ht.keep F5 (by simp))).mono ?_; clear cO; rintro e w6 ⟨rfl, f6⟩; have F6 := F5.trans f6)
      | (go_at_call 12; refine (num6_any _ _).mono ?_; rintro e w4 ⟨rfl, rfl⟩)
      | fail)
    go_ret
    exact ⟨rfl, F6⟩
end Go.Proofs.YtichgiecohhmgaaDoor
