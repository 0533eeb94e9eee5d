/- The law ShaHexBack walked. -/
import Derived.Test.YtkagmoaapampgaaDoorLawShaKnownW
import Derived.Test.YtkagmoaapampgaaDoorUnhexW
import Derived.Test.YtkagmoaapampgaaDoorShaState
namespace Go.Proofs.YtkagmoaapampgaaDoor
open Go.RowKit Go.Lib Go.Joins Base
set_option linter.unusedVariables false
set_option linter.unusedSimpArgs false

theorem dg_range (x : UInt8) : x < 16 → (48 ≤ dg x ∧ dg x ≤ 57) ∨ (97 ≤ dg x ∧ dg x ≤ 102) := all8 (fun x => x < 16 → (48 ≤ dg x ∧ dg x ≤ 57) ∨ (97 ≤ dg x ∧ dg x ≤ 102)) (by decide +kernel) x
theorem hexL_range : ∀ (l : List UInt8) (c : UInt8), c ∈ hexL l → (48 ≤ c ∧ c ≤ 57) ∨ (97 ≤ c ∧ c ≤ 102)
  | [], c, h => by simp [hexL] at h
  | x :: r, c, h => by
    have e : hexL (x :: r) = dg (x >>> 4) :: dg (x &&& 15) :: hexL r := rfl
    rw [e] at h
    simp only [List.mem_cons] at h
    rcases h with rfl | rfl | h
    · exact dg_range _ (shr4_lt x)
    · exact dg_range _ (and15_lt x)
    · exact hexL_range r c h
theorem dg_dv (c : UInt8) : 0 ≤ dv c → dg (UInt8.ofNat (dv c).toNat) = c := all8 (fun c => 0 ≤ dv c → dg (UInt8.ofNat (dv c).toNat) = c) (by decide +kernel) c
theorem pair_back (a b x : UInt8) (h : pair a b = some x) : dg (x >>> 4) = a ∧ dg (x &&& 15) = b := by
  have ha := dv_range a
  have hb := dv_range b
  unfold pair at h
  by_cases hc : dv a < 0 ∨ dv b < 0
  · rw [if_pos hc] at h; cases h
  · rw [if_neg hc] at h
    injection h with h
    obtain ⟨n, hn⟩ : ∃ n : Nat, dv a = n := ⟨(dv a).toNat, by omega⟩
    obtain ⟨m, hm⟩ : ∃ m : Nat, dv b = m := ⟨(dv b).toNat, by omega⟩
    have da := dg_dv a (by omega)
    have db := dg_dv b (by omega)
    rw [hn] at h da
    rw [hm] at h db
    have hn16 : n < 16 := by omega
    have hm16 : m < 16 := by omega
    simp only [Int.toNat_natCast] at h da db
    have e1 : x >>> 4 = UInt8.ofNat n := by
      rw [← h]; apply UInt8.toNat_inj.1
      simp [Nat.shiftRight_eq_div_pow]; omega
    have e2 : x &&& 15 = UInt8.ofNat m := by
      rw [← h]; apply UInt8.toNat_inj.1
      rw [UInt8.toNat_and]
      have : (15 : UInt8).toNat = 2 ^ 4 - 1 := rfl
      rw [this, Nat.and_two_pow_sub_one_eq_mod]
      simp; omega
    rw [e1, e2]; exact ⟨da, db⟩
theorem hex_unhex : ∀ (l r : List UInt8), unhexL l = some r → hexL r = l
  | [], r, h => by cases h; rfl
  | [_], r, h => by cases h
  | a :: b :: l, r, h => by
    rw [unhexL] at h
    cases hp : pair a b with
    | none => rw [hp] at h; cases h
    | some x =>
      cases hu : unhexL l with
      | none => rw [hp, hu] at h; cases h
      | some q =>
        rw [hp, hu] at h
        cases h
        obtain ⟨e1, e2⟩ := pair_back a b x hp
        show dg (x >>> 4) :: dg (x &&& 15) :: hexL q = _
        rw [e1, e2, hex_unhex l q hu]
theorem unhex_A (l : List UInt8) : unhexL (hexL l ++ [65, 48]) = none := by
  have hl := hexL_len l
  refine unhex_bad l.length _ (by simp; omega) ?_
  have e1 : (hexL l ++ [65, 48]).getD (2 * l.length) 0 = 65 := by
    rw [List.getD, List.getElem?_append_right (by omega), show 2 * l.length - (hexL l).length = 0 by omega]; rfl
  have e2 : (hexL l ++ [65, 48]).getD (2 * l.length + 1) 0 = 48 := by
    rw [List.getD, List.getElem?_append_right (by omega), show 2 * l.length + 1 - (hexL l).length = 1 by omega]; rfl
  rw [e1, e2]; decide +kernel
theorem unhex_0 (l : List UInt8) : unhexL (hexL l ++ [48]) = none := by
  have hl := hexL_len l
  cases h : unhexL (hexL l ++ [48]) with
  | none => rfl
  | some r => have := unhex_len _ _ h; simp at this; omega

theorem unhexOf (l : List UInt8) (hl : l.length ≤ 4194304) (w : World) : Calls Tryd.prog 16 #[.string ⟨l.toArray⟩] w fun e w' => e = .returned (.tuple #[.string (unS l), .int .i64 (unC l)]) ∧ Fr [] w w' :=
  unhex_any ⟨l.toArray⟩ (by show l.toArray.size ≤ 4194304; rw [List.size_toArray]; exact hl) w
theorem num2_any (c : Int) (w : World) : Calls Tryd.prog 17 #[.int .i64 c] w fun e w' => e = .returned (.int .i64 c) ∧ w = w' := by
  go_enter Tryd.func17, Tryd.ntmps17
  go_wp2
  go_ret
  exact ⟨rfl, rfl⟩
theorem bulk_one {H : Type} {s : List UInt8} (hk : Rows.uptoSmall H [.lit (.string s)] = true) : s.length ≤ 1048576 := by
  have h := of_decide_eq_true hk
  simp only [Rows.uptoBulkAll, Rows.uptoBulk] at h
  omega

set_option maxRecDepth 100000 in
set_option maxHeartbeats 1000000 in
theorem hexBack_law (s : ByteArray) (_ : s.size ≤ 140737488351232) {H : Type} (hk : Rows.uptoSmall H [.lit (.string s.data.toList)] = true) (w : World) (hI : First w) (hR : Roots w) :
    Calls Tryd.prog 5 #[.string s] w fun e w' => e = .returned (.bool true) ∧ Fr [] w w' := by
  have hs : s.size ≤ 1048576 := by have := bulk_one hk; simpa using this
  obtain ⟨S, hS⟩ : ∃ S, S = s.data.toList := ⟨_, rfl⟩
  have hSl : S.length = s.size := by rw [hS]; simp
  have hH := hexL_len S
  have h1 := fun w => hex_any s (by omega) w
  have u1 := fun w => unhex_any s (by omega) w
  have hb := fun w => unhexOf (hexL S) (by omega) w
  have hA := fun w => unhexOf (hexL S ++ [65, 48]) (by simp; omega) w
  have h0 := fun w => unhexOf (hexL S ++ [48]) (by simp; omega) w
  have e1 : unS (hexL S) = s := by unfold unS; rw [unhex_hex, hS]
  have e2 : unC (hexL S) = 0 := by unfold unC; rw [unhex_hex]
  have e3 : unC (hexL S ++ [65, 48]) = 20 := by unfold unC; rw [unhex_A]
  have e4 : unC (hexL S ++ [48]) = 20 := by unfold unC; rw [unhex_0]
  simp only [e1, e2] at hb
  simp only [e3] at hA
  simp only [e4] at h0
  rw [← str_app] at hA h0
  simp only [← hS] at h1 u1
  have hrange : ∀ i (hi : i < (⟨(hexL S).toArray⟩ : ByteArray).size), ((48 ≤ bt ((⟨(hexL S).toArray⟩ : ByteArray)[i]) ∧ bt ((⟨(hexL S).toArray⟩ : ByteArray)[i]) ≤ 57) ∨ (97 ≤ bt ((⟨(hexL S).toArray⟩ : ByteArray)[i]) ∧ bt ((⟨(hexL S).toArray⟩ : ByteArray)[i]) ≤ 102)) := by
    intro i hi
    have hi' : i < (hexL S).length := by have : (⟨(hexL S).toArray⟩ : ByteArray).size = (hexL S).length := List.size_toArray; omega
    have e : (⟨(hexL S).toArray⟩ : ByteArray)[i] = (hexL S)[i] := rfl
    rw [e]
    have := hexL_range S _ (List.getElem_mem hi')
    unfold bt
    simp only [UInt8.le_iff_toNat_le] at this
    rcases this with ⟨h1, h2⟩ | ⟨h1, h2⟩
    · left; have a1 : (48 : UInt8).toNat = 48 := rfl; have a2 : (57 : UInt8).toNat = 57 := rfl; omega
    · right; have a1 : (97 : UInt8).toNat = 97 := rfl; have a2 : (102 : UInt8).toNat = 102 := rfl; omega
  have hsz : (⟨(hexL S).toArray⟩ : ByteArray).size = 2 * s.size := by show (hexL S).toArray.size = _; rw [List.size_toArray]; omega
  generalize unS (hexL S ++ [65, 48]) = j1 at hA
  generalize unS (hexL S ++ [48]) = j2 at h0
  have e5 : ∀ r, unhexL S = some r → hexL r = S := fun r => hex_unhex S r
  have h2 : ∀ r, unhexL S = some r → ∀ w, Calls Tryd.prog 15 #[.string ⟨r.toArray⟩] w fun e w' => e = .returned (.string s) ∧ Fr [] w w' := by
    intro r hr w
    have hl := unhex_len S r hr
    have := hexOf r (by omega) S (e5 r hr) w
    rw [hS] at this
    exact this
  generalize (⟨(hexL S).toArray⟩ : ByteArray) = h at h1 hb hA h0 hrange hsz
  have k1 : ¬ 9223372036854775807 < h.size + 2 := by omega
  have k2 : ¬ 9223372036854775807 < h.size + 1 := by omega
  have k3 : ¬ 9223372036854775807 < 2 * s.size + 2 := by omega
  have k4 : ¬ 9223372036854775807 < 2 * s.size + 1 := by omega
  have w1 : IntKind.i64.wrap (2 * (s.size : Int)) = 2 * (s.size : Int) := IntWalk.i64_in _ (by omega)
  have HS := Lib.hid (And.intro hS hsz)
  have hszI : (h.size : Int) = 2 * (s.size : Int) := by omega
  clear hS hSl hH e5 hk hsz
  go_enter Tryd.func5, Tryd.ntmps5
  go_wp2_with (first
    | (go_at_call 15; refine (h1 _).mono ?_; clear h1; rintro e wa ⟨rfl, f1⟩; have hF := f1)
    | (go_at_call 16; refine (hb _).mono ?_; clear hb; rintro e wb ⟨rfl, f2⟩; have hF := hF.trans f2)
    | (go_at_call 17; refine (num2_any _ _).mono ?_; rintro e w3 ⟨rfl, rfl⟩)
    | fail)
  have hF0 := Lib.hid hF
  clear hF f1 f2
  go_loopw [6] (fun v wr => ∃ i : Nat, i ≤ 2 * s.size ∧ v = .int .i64 i ∧ wr = wb) (fun v _ => 2 * s.size - (intOf v).toNat)
  case atStart => exact ⟨0, by omega, rfl, rfl⟩
  case round =>
    obtain ⟨i, hi, rfl, rfl⟩ := hrel
    by_cases hl : i < 2 * s.size
    · have l0 : i < h.size := by have := HS.out.2; omega
      have l1 : (i : Int) < 2 * s.size := by omega
      have l2 : (i : Int) < h.size := by omega
      have hr := hrange i l0
      obtain ⟨x, hx⟩ : ∃ x, x = h[i]'l0 := ⟨_, rfl⟩
      have gx : h[i]'l0 = x := hx.symm
      rw [← hx] at hr
      clear hx hrange
      have hbx := bt_lt x
      rcases hr with ⟨r1, r2⟩ | ⟨r1, r2⟩
      · generalize hq : bt x = bx at r1 r2 hbx
        go_wp2_with fail
        exact ⟨⟨i + 1, by omega, by simp, by trivial⟩, by simp only [intOf]; omega⟩
      · have r3 : 48 ≤ bt x := by omega
        have r4 : ¬ bt x ≤ 57 := by omega
        generalize hq : bt x = bx at r1 r2 hbx r3 r4
        go_wp2_with fail
        exact ⟨⟨i + 1, by omega, by simp, by trivial⟩, by simp only [intOf]; omega⟩
    · obtain rfl : i = 2 * s.size := by omega
      clear hrange
      have hF := hF0.out
      have hkn := fun w hI hR => known_any w hI hR
      cases hu : unhexL S with
      | none =>
        have c1 : unS S = ⟨#[]⟩ := by unfold unS; rw [hu]
        have c2 : unC S = 20 := by unfold unC; rw [hu]
        simp only [c1, c2] at u1
        clear c1 c2 hu h2
        go_wp2_with (first
          | (go_at_call 16; first
            | (refine (u1 _).mono ?_; clear u1; rintro e wc ⟨rfl, f3⟩; have hF := hF.trans f3)
            | (refine (hA _).mono ?_; clear hA; rintro e wc ⟨rfl, f3⟩; have hF := hF.trans f3)
            | (refine (h0 _).mono ?_; clear h0; rintro e wc ⟨rfl, f3⟩; have hF := hF.trans f3))
          | (go_at_call 17; refine (num2_any _ _).mono ?_; rintro e w3 ⟨rfl, rfl⟩)
          | (go_at_call 14; refine (hkn _ (hI.keep hF) (hR.keep hF (by simp))).mono ?_; rintro e wk ⟨rfl, fk⟩; have hF := hF.trans fk)
          | fail)
        go_ret
        exact ⟨rfl, hF⟩
      | some r =>
        have c1 : unS S = ⟨r.toArray⟩ := by unfold unS; rw [hu]
        have c2 : unC S = 0 := by unfold unC; rw [hu]
        simp only [c1, c2] at u1
        have h3 := h2 r hu
        clear c1 c2 hu h2
        generalize (⟨r.toArray⟩ : ByteArray) = R at u1 h3
        go_wp2_with (first
          | (go_at_call 16; first
            | (refine (u1 _).mono ?_; clear u1; rintro e wc ⟨rfl, f3⟩; have hF := hF.trans f3)
            | (refine (hA _).mono ?_; clear hA; rintro e wc ⟨rfl, f3⟩; have hF := hF.trans f3)
            | (refine (h0 _).mono ?_; clear h0; rintro e wc ⟨rfl, f3⟩; have hF := hF.trans f3))
          | (go_at_call 15; refine (h3 _).mono ?_; rintro e wd ⟨rfl, f4⟩; have hF := hF.trans f4)
          | (go_at_call 17; refine (num2_any _ _).mono ?_; rintro e w3 ⟨rfl, rfl⟩)
          | (go_at_call 14; refine (hkn _ (hI.keep hF) (hR.keep hF (by simp))).mono ?_; rintro e wk ⟨rfl, fk⟩; have hF := hF.trans fk)
          | fail)
        go_ret
        exact ⟨rfl, hF⟩
end Go.Proofs.YtkagmoaapampgaaDoor
