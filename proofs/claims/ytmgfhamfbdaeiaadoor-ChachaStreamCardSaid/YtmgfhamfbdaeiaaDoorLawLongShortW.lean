/- The law ChachaLongIsShort walked. -/
import Derived.Test.YtmgfhamfbdaeiaaDoorKnown
namespace Go.Proofs.YtmgfhamfbdaeiaaDoor
open Go.RowKit Go.Lib Base
set_option linter.unusedVariables false
set_option linter.unusedSimpArgs false

/-- What is played of a text. -/
def cutD (d : ByteArray) : ByteArray := if 65536 < d.size then d.extract 0 65536 else d
theorem cutD_size (d : ByteArray) : (cutD d).size ≤ 65536 := by
  unfold cutD; split
  · simp; omega
  · omega

theorem fr_drew3 {w w1 : World} (h : Fr [] w w1) (n : Nat) : Fr [] w (w1.drewN n) := h.trans (Fr.drewN _ _ _)

set_option maxRecDepth 100000 in
set_option maxHeartbeats 1000000 in
theorem longShort_law (k : ByteArray) (_ : k.size ≤ 140737488351232) (x : Int) (_ : (Lit.int .i64 x).wf = true) (n : ByteArray) (_ : n.size ≤ 140737488351232) (d : ByteArray) (hd : d.size ≤ 140737488351232) (w : World) (hR : Rounds w) :
    Calls Tryd.prog 11 #[.string k, .int .i64 x, .string n, .string d] w fun e w' => e = .returned (.bool true) ∧ Fr [] w w' := by
  have hcs := cutD_size d
  have hcut : (65536 < d.size → d.extract 0 65536 = cutD d) ∧ (¬ 65536 < d.size → d = cutD d) := by
    unfold cutD
    constructor
    · intro h; rw [if_pos h]
    · intro h; rw [if_neg h]
  generalize cutD d = D at hcs hcut
  by_cases hk : k.size = 32
  · by_cases hn : n.size = 24
    · have hk' := subKey_size k n hk hn
      have hn' := subNonce_size n hn
      obtain ⟨s, c, c0, c1, h1, _⟩ := xor_both (subKey k n) (subNonce n) D (by omega) x
      have hxx := fun w h => xxor_ok k n D x s c hk hn h1 w h
      have hh := fun w h => hash_ok k (n.extract 0 16) hk (by simp [hn]) w h
      have hk2 : (⟨((hch k.data.toList (n.extract 0 16).data.toList).flatMap bytes4).toArray⟩ : ByteArray) = subKey k n := rfl
      rw [hk2] at hh
      clear hk2
      have e24 : n.extract 16 24 = n.extract 16 n.size := by rw [hn]
      generalize subKey k n = sk at hh h1 hk'
      have hn2 : (⟨#[0, 0, 0, 0]⟩ : ByteArray) ++ n.extract 16 n.size = subNonce n := rfl
      by_cases hb : 65536 < d.size
      · have hDe := hcut.1 hb
        have hbi : (65536 : Int) < d.size := by omega
        clear hcut
        go_enter Tryd.func11, Tryd.ntmps11
        go_wp2_with (first
          | (go_at_call 26; refine (known_any _ hR).mono ?_; rintro e w1 ⟨rfl, f1⟩; have hF := f1)
          | (go_at_call 27; refine (hxx _ (by exact hR.keep hF (by simp))).mono ?_; rintro e w2 ⟨rfl, f2⟩; have hF := hF.trans f2)
          | (go_at_call 19; refine (hh _ (by exact hR.keep hF (by simp))).mono ?_; rintro e w3 ⟨rfl, f3⟩; have hF := hF.trans f3)
          | (go_at_call 24; refine (h1 _ (by exact hR.keep hF (by simp))).mono ?_; rintro e w4 ⟨rfl, f4⟩; have hF := hF.trans f4)
          | (go_at_call 21; first | (refine (num4_any 0 (by omega) (by omega) _).mono ?_; rintro e w5 ⟨rfl, qn, rfl⟩) | (refine (num4_any c c0 c1 _).mono ?_; rintro e w5 ⟨rfl, qn, rfl⟩))
          | fail)
        go_ret
        exact ⟨rfl, hF.trans (Fr.drewN _ _ _)⟩
      · obtain rfl := hcut.2 hb
        have hbi : ¬ (65536 : Int) < d.size := by omega
        clear hcut
        go_enter Tryd.func11, Tryd.ntmps11
        go_wp2_with (first
          | (go_at_call 26; refine (known_any _ hR).mono ?_; rintro e w1 ⟨rfl, f1⟩; have hF := f1)
          | (go_at_call 27; refine (hxx _ (by exact hR.keep hF (by simp))).mono ?_; rintro e w2 ⟨rfl, f2⟩; have hF := hF.trans f2)
          | (go_at_call 19; refine (hh _ (by exact hR.keep hF (by simp))).mono ?_; rintro e w3 ⟨rfl, f3⟩; have hF := hF.trans f3)
          | (go_at_call 24; refine (h1 _ (by exact hR.keep hF (by simp))).mono ?_; rintro e w4 ⟨rfl, f4⟩; have hF := hF.trans f4)
          | (go_at_call 21; first | (refine (num4_any 0 (by omega) (by omega) _).mono ?_; rintro e w5 ⟨rfl, qn, rfl⟩) | (refine (num4_any c c0 c1 _).mono ?_; rintro e w5 ⟨rfl, qn, rfl⟩))
          | fail)
        go_ret
        exact ⟨rfl, hF.trans (Fr.drewN _ _ _)⟩
    · have hni : ¬ (n.size : Int) = 24 := by omega
      by_cases hb : 65536 < d.size
      · have hDe := hcut.1 hb
        have hbi : (65536 : Int) < d.size := by omega
        clear hcut
        go_enter Tryd.func11, Tryd.ntmps11
        go_wp2_with (first
          | (go_at_call 26; refine (known_any _ hR).mono ?_; rintro e w1 ⟨rfl, f1⟩; have hF := f1)
          | (go_at_call 27; refine (xxor_nonce k n _ x hk hn _).mono ?_; rintro e w2 ⟨rfl, f2⟩; have hF := hF.trans f2)
          | (go_at_call 21; refine (num4_any 41 (by omega) (by omega) _).mono ?_; rintro e w5 ⟨rfl, qn, rfl⟩)
          | fail)
        go_ret
        exact ⟨rfl, hF.trans (Fr.drewN _ _ _)⟩
      · obtain rfl := hcut.2 hb
        have hbi : ¬ (65536 : Int) < d.size := by omega
        clear hcut
        go_enter Tryd.func11, Tryd.ntmps11
        go_wp2_with (first
          | (go_at_call 26; refine (known_any _ hR).mono ?_; rintro e w1 ⟨rfl, f1⟩; have hF := f1)
          | (go_at_call 27; refine (xxor_nonce k n _ x hk hn _).mono ?_; rintro e w2 ⟨rfl, f2⟩; have hF := hF.trans f2)
          | (go_at_call 21; refine (num4_any 41 (by omega) (by omega) _).mono ?_; rintro e w5 ⟨rfl, qn, rfl⟩)
          | fail)
        go_ret
        exact ⟨rfl, hF.trans (Fr.drewN _ _ _)⟩
  · have hki : ¬ (k.size : Int) = 32 := by omega
    by_cases hb : 65536 < d.size
    · have hDe := hcut.1 hb
      have hbi : (65536 : Int) < d.size := by omega
      clear hcut
      go_enter Tryd.func11, Tryd.ntmps11
      go_wp2_with (first
        | (go_at_call 26; refine (known_any _ hR).mono ?_; rintro e w1 ⟨rfl, f1⟩; have hF := f1)
        | (go_at_call 27; refine (xxor_key k n _ x hk _).mono ?_; rintro e w2 ⟨rfl, f2⟩; have hF := hF.trans f2)
        | (go_at_call 21; refine (num4_any 40 (by omega) (by omega) _).mono ?_; rintro e w5 ⟨rfl, qn, rfl⟩)
        | fail)
      go_ret
      exact ⟨rfl, hF.trans (Fr.drewN _ _ _)⟩
    · obtain rfl := hcut.2 hb
      have hbi : ¬ (65536 : Int) < d.size := by omega
      clear hcut
      go_enter Tryd.func11, Tryd.ntmps11
      go_wp2_with (first
        | (go_at_call 26; refine (known_any _ hR).mono ?_; rintro e w1 ⟨rfl, f1⟩; have hF := f1)
        | (go_at_call 27; refine (xxor_key k n _ x hk _).mono ?_; rintro e w2 ⟨rfl, f2⟩; have hF := hF.trans f2)
        | (go_at_call 21; refine (num4_any 40 (by omega) (by omega) _).mono ?_; rintro e w5 ⟨rfl, qn, rfl⟩)
        | fail)
      go_ret
      exact ⟨rfl, hF.trans (Fr.drewN _ _ _)⟩
end Go.Proofs.YtmgfhamfbdaeiaaDoor
