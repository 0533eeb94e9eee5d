/- The law ChachaEnds walked. -/
import Derived.Test.YtmgfhamfbdaeiaaDoorLawLongShortW
namespace Go.Proofs.YtmgfhamfbdaeiaaDoor
open Go.RowKit Go.Lib Base
set_option linter.unusedVariables false
set_option linter.unusedSimpArgs false

def fit (s : ByteArray) (n : Nat) : ByteArray := ⟨(fitL s.data.toList n).toArray⟩
theorem fit_size (s : ByteArray) (n : Nat) : (fit s n).size = n := by
  show (fitL s.data.toList n).toArray.size = n
  rw [List.size_toArray, fitL_len]
theorem sizedfit_any (s : ByteArray) (n : Nat) (hn : n ≤ 1000) (w : World) : Calls Tryd.prog 29 #[.string s, .int .i64 n] w fun e w' => e = .returned (.string (fit s n)) ∧ Fr [] w w' := sizedlaw_any s n hn w
theorem sized32_any (s : ByteArray) (w : World) : Calls Tryd.prog 29 #[.string s, .int .i64 32] w fun e w' => e = .returned (.string (fit s 32)) ∧ Fr [] w w' := sizedlaw_any s 32 (by omega) w
theorem sized12_any (s : ByteArray) (w : World) : Calls Tryd.prog 29 #[.string s, .int .i64 12] w fun e w' => e = .returned (.string (fit s 12)) ∧ Fr [] w w' := sizedlaw_any s 12 (by omega) w
theorem sized24_any (s : ByteArray) (w : World) : Calls Tryd.prog 29 #[.string s, .int .i64 24] w fun e w' => e = .returned (.string (fit s 24)) ∧ Fr [] w w' := sizedlaw_any s 24 (by omega) w
/-- The text that Xor answers with. -/
def xored (k n d : ByteArray) (c : UInt32) : ByteArray := ⟨(xorAll (ksAt k.data.toList n.data.toList c) d.data.toList).toArray⟩
theorem xored_size (k n d : ByteArray) (c : UInt32) : (xored k n d c).size = d.size := by
  show (xorAll _ d.data.toList).toArray.size = d.size
  rw [List.size_toArray, xorAll_len]; simp
theorem xored_back (k n d : ByteArray) (c : UInt32) : xored k n (xored k n d c) c = d := by
  apply ByteArray.ext
  apply Array.toList_inj.1
  show xorAll _ (xorAll _ d.data.toList).toArray.toList = d.data.toList
  rw [List.toList_toArray, xorAll_back]
theorem xored_ok (k n d : ByteArray) (hk : k.size = 32) (hn : n.size = 12) (hd : d.size ≤ 140737488351232) (c : UInt32) (hroom : (d.size + 63) / 64 + c.toNat ≤ 4294967296) (w : World) (ht : Rounds w) :
    Calls Tryd.prog 24 #[.string k, .int .i64 (wd c), .string n, .string d] w fun e w' => e = .returned (.tuple #[.string (xored k n d c), .int .i64 0]) ∧ Fr [] w w' := xor_ok k n d hk hn hd c hroom w ht

set_option maxRecDepth 100000 in
set_option maxHeartbeats 1000000 in
theorem ends_law (k : ByteArray) (_ : k.size ≤ 140737488351232) (n : ByteArray) (_ : n.size ≤ 140737488351232) (d : ByteArray) (hd : d.size ≤ 140737488351232) (w : World) (hR : Rounds w) :
    Calls Tryd.prog 9 #[.string k, .string n, .string d] w fun e w' => e = .returned (.bool true) ∧ Fr [] w w' := by
  have hcs := cutD_size d
  have hcut : (65536 < d.size → d.extract 0 65536 = cutD d) ∧ (¬ 65536 < d.size → d = cutD d) := by
    unfold cutD
    constructor
    · intro h; rw [if_pos h]
    · intro h; rw [if_neg h]
  generalize cutD d = D at hcs hcut
  have hk' := fit_size k 32
  have hn' := fit_size n 12
  have hsk := sized32_any k
  have hsn := sized12_any n
  generalize fit k 32 = kk at hk' hsk
  generalize fit n 12 = nn at hn' hsn
  obtain ⟨E, hE⟩ : ∃ E : ByteArray, D ++ ⟨#[120]⟩ = E := ⟨_, rfl⟩
  have hEs : E.size = D.size + 1 := by rw [← hE, ByteArray.size_append]; rfl
  obtain ⟨c, hc⟩ := wd_of (n := 4294967296 - ((E.size : Int) + 63) / 64) (by omega) (by omega)
  have hcn : wd c = c.toNat := rfl
  have hx := fun w h => xored_ok kk nn E hk' hn' (by omega) c (by omega) w h
  have hSs := xored_size kk nn E c
  generalize xored kk nn E c = S at hx hSs
  have hx2 : ∀ w, Calls Tryd.prog 24 #[.string kk, .int .i64 (wd c + 1), .string nn, .string E] w fun e w' => e = .returned (.tuple #[.string ⟨#[]⟩, .int .i64 42]) ∧ Fr [] w w' := by
    intro w
    by_cases hb : wd c + 1 < 4294967296
    · obtain ⟨c', hc'⟩ := wd_of (n := wd c + 1) (by omega) hb
      have hcn' : wd c' = c'.toNat := rfl
      rw [hc']
      exact xor_big kk nn E hk' hn' (by omega) c' (by omega) w
    · exact xor_count kk nn E (wd c + 1) hk' hn' (.inr (by omega)) w
  have a0 : IntKind.i64.wrap ((E.size : Int) + 63) = (E.size : Int) + 63 := IntWalk.i64_in _ (by omega)
  have a1 : IntKind.i64.wrap (4294967296 - ((E.size : Int) + 63) / 64) = 4294967296 - ((E.size : Int) + 63) / 64 := IntWalk.i64_in _ (by omega)
  have a2 : IntKind.i64.wrap (wd c + 1) = wd c + 1 := IntWalk.i64_in _ (by omega)
  have hn0 := fun w => num4_any 0 (by omega) (by omega) w
  have hn42 := fun w => num4_any 42 (by omega) (by omega) w
  have hEb : E.size ≤ 65537 := by omega
  clear hcn hEs
  by_cases hb : 65536 < d.size
  · have hDe := hcut.1 hb
    have hbi : (65536 : Int) < d.size := by omega
    clear hcut
    go_enter Tryd.func9, Tryd.ntmps9
    go_wp2_with (first
      | (go_at_call 26; refine (known_any _ hR).mono ?_; rintro e w1 ⟨rfl, f1⟩; have hF := f1)
      | (go_at_call 29; first | (refine (hsk _).mono ?_; clear hsk; rintro e w2 ⟨rfl, f2⟩; have hF := hF.trans f2) | (refine (hsn _).mono ?_; rintro e w2 ⟨rfl, f2⟩; have hF := hF.trans f2))
      | (go_at_call 24; first | (refine (hx _ (by exact hR.keep hF (by simp))).mono ?_; clear hx; rintro e w2 ⟨rfl, f2⟩; have hF := hF.trans f2) | (refine (hx2 _).mono ?_; rintro e w2 ⟨rfl, f2⟩; have hF := hF.trans f2))
      | (go_at_call 21; first | (refine (hn0 _).mono ?_; clear hn0; rintro e w5 ⟨rfl, qn, rfl⟩) | (refine (hn42 _).mono ?_; rintro e w5 ⟨rfl, qn, rfl⟩))
      | fail)
    go_ret
    exact ⟨rfl, hF.trans (Fr.drewN _ _ _)⟩
  · obtain rfl := hcut.2 hb
    have hbi : ¬ (65536 : Int) < d.size := by omega
    clear hcut
    go_enter Tryd.func9, Tryd.ntmps9
    go_wp2_with (first
      | (go_at_call 26; refine (known_any _ hR).mono ?_; rintro e w1 ⟨rfl, f1⟩; have hF := f1)
      | (go_at_call 29; first | (refine (hsk _).mono ?_; clear hsk; rintro e w2 ⟨rfl, f2⟩; have hF := hF.trans f2) | (refine (hsn _).mono ?_; rintro e w2 ⟨rfl, f2⟩; have hF := hF.trans f2))
      | (go_at_call 24; first | (refine (hx _ (by exact hR.keep hF (by simp))).mono ?_; clear hx; rintro e w2 ⟨rfl, f2⟩; have hF := hF.trans f2) | (refine (hx2 _).mono ?_; rintro e w2 ⟨rfl, f2⟩; have hF := hF.trans f2))
      | (go_at_call 21; first | (refine (hn0 _).mono ?_; clear hn0; rintro e w5 ⟨rfl, qn, rfl⟩) | (refine (hn42 _).mono ?_; rintro e w5 ⟨rfl, qn, rfl⟩))
      | fail)
    go_ret
    exact ⟨rfl, hF.trans (Fr.drewN _ _ _)⟩
end Go.Proofs.YtmgfhamfbdaeiaaDoor
