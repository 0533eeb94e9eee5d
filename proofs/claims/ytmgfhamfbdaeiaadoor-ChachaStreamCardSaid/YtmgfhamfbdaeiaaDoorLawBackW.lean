/- The law ChachaBack walked. -/
import Derived.Test.YtmgfhamfbdaeiaaDoorLawEndsW
namespace Go.Proofs.YtmgfhamfbdaeiaaDoor
open Go.RowKit Go.Lib Base
set_option linter.unusedVariables false
set_option linter.unusedSimpArgs false

theorem ksAt_shift (K N : List UInt8) (c : UInt32) (a i : Nat) : ksAt K N (c + UInt32.ofNat a) i = ksAt K N c (64 * a + i) := by
  unfold ksAt
  rw [show (64 * a + i) / 64 = a + i / 64 by omega, show (64 * a + i) % 64 = i % 64 by omega]
  congr 2
  apply UInt32.toNat_inj.1
  simp only [UInt32.toNat_add, UInt32.toNat_ofNat']
  omega
theorem xorAll_append (f : Nat → UInt8) (a b : List UInt8) : xorAll f (a ++ b) = xorAll f a ++ xorAll (fun i => f (a.length + i)) b := by
  unfold xorAll
  rw [List.mapIdx_append]
  congr 1
  apply List.ext_getElem?; intro i
  simp [List.getElem?_mapIdx, Nat.add_comm]
theorem xored_list (k n d : ByteArray) (c : UInt32) : (xored k n d c).data.toList = xorAll (ksAt k.data.toList n.data.toList c) d.data.toList := List.toList_toArray
/-- A stream cut behind a block is the two parts'. -/
theorem xored_cut (k n d : ByteArray) (c : UInt32) (a : Nat) (h : 64 * a ≤ d.size) :
    xored k n (d.extract 0 (64 * a)) c ++ xored k n (d.extract (64 * a) d.size) (c + UInt32.ofNat a) = xored k n d c := by
  apply ByteArray.ext
  apply Array.toList_inj.1
  have hl : d.data.toList.length = d.size := by simp
  have e1 : (d.extract 0 (64 * a)).data.toList = d.data.toList.take (64 * a) := by simp
  have e2 : (d.extract (64 * a) d.size).data.toList = d.data.toList.drop (64 * a) := extract_rest d _ _ rfl
  have e3 : (xored k n (d.extract 0 (64 * a)) c ++ xored k n (d.extract (64 * a) d.size) (c + UInt32.ofNat a)).data.toList =
      (xored k n (d.extract 0 (64 * a)) c).data.toList ++ (xored k n (d.extract (64 * a) d.size) (c + UInt32.ofNat a)).data.toList := by simp
  rw [e3]
  rw [xored_list, xored_list, xored_list, e1, e2]
  conv => rhs; rw [← List.take_append_drop (64 * a) d.data.toList, xorAll_append]
  have e4 : (fun i => ksAt k.data.toList n.data.toList c ((d.data.toList.take (64 * a)).length + i)) = ksAt k.data.toList n.data.toList (c + UInt32.ofNat a) := by
    funext i
    rw [ksAt_shift, List.length_take, Nat.min_eq_left (by omega)]
  rw [e4]

theorem back_facts (kk nn mm D : ByteArray) (c : UInt32) (hk' : kk.size = 32) (hn' : nn.size = 12) (hm' : mm.size = 24) (hcs : D.size ≤ 65536) (hroom : (D.size + 63) / 64 + c.toNat ≤ 4294967296) :
    (∀ w, Rounds w → Calls Tryd.prog 24 #[.string kk, .int .i64 (wd c), .string nn, .string D] w fun e w' => e = .returned (.tuple #[.string (xored kk nn D c), .int .i64 0]) ∧ Fr [] w w') ∧
    (∀ w, Rounds w → Calls Tryd.prog 24 #[.string kk, .int .i64 (wd c), .string nn, .string (xored kk nn D c)] w fun e w' => e = .returned (.tuple #[.string D, .int .i64 0]) ∧ Fr [] w w') ∧
    (∀ w, Rounds w → Calls Tryd.prog 27 #[.string kk, .int .i64 (wd c), .string mm, .string D] w fun e w' => e = .returned (.tuple #[.string (xored (subKey kk mm) (subNonce mm) D c), .int .i64 0]) ∧ Fr [] w w') ∧
    (∀ w, Rounds w → Calls Tryd.prog 27 #[.string kk, .int .i64 (wd c), .string mm, .string (xored (subKey kk mm) (subNonce mm) D c)] w fun e w' => e = .returned (.tuple #[.string D, .int .i64 0]) ∧ Fr [] w w') ∧
    (∀ a, 64 * a < D.size → ∀ w, Rounds w → Calls Tryd.prog 24 #[.string kk, .int .i64 (wd c), .string nn, .string (D.extract 0 (64 * a))] w fun e w' => e = .returned (.tuple #[.string (xored kk nn (D.extract 0 (64 * a)) c), .int .i64 0]) ∧ Fr [] w w') ∧
    (∀ a, 64 * a < D.size → ∀ w, Rounds w → (IntKind.i64.wrap (wd c + a) = wd (c + UInt32.ofNat a) ∧ xored kk nn (D.extract 0 (64 * a)) c ++ xored kk nn (D.extract (64 * a) D.size) (c + UInt32.ofNat a) = xored kk nn D c) ∧
      Calls Tryd.prog 24 #[.string kk, .int .i64 (wd (c + UInt32.ofNat a)), .string nn, .string (D.extract (64 * a) D.size)] w fun e w' => e = .returned (.tuple #[.string (xored kk nn (D.extract (64 * a) D.size) (c + UInt32.ofNat a)), .int .i64 0]) ∧ Fr [] w w') ∧
    (xored kk nn D c).size = D.size ∧ (xored (subKey kk mm) (subNonce mm) D c).size = D.size := by
  have hz := xored_size kk nn D c
  have hz2 := xored_size (subKey kk mm) (subNonce mm) D c
  have k' := subKey_size kk mm hk' hm'
  have n' := subNonce_size mm hm'
  refine ⟨fun w h => xored_ok kk nn D hk' hn' (by omega) c hroom w h, fun w h => ?_, fun w h => ?_, fun w h => ?_, fun a ha w h => ?_, fun a ha w h => ⟨⟨?_, ?_⟩, ?_⟩, hz, hz2⟩
  · have := xored_ok kk nn (xored kk nn D c) hk' hn' (by omega) c (by rw [hz]; exact hroom) w h
    rwa [xored_back] at this
  · exact xxor_ok kk mm D (wd c) _ 0 hk' hm' (fun w h => xored_ok _ _ D k' n' (by omega) c hroom w h) w h
  · have := fun w h => xored_ok (subKey kk mm) (subNonce mm) (xored (subKey kk mm) (subNonce mm) D c) k' n' (by omega) c (by rw [hz2]; exact hroom) w h
    simp only [xored_back] at this
    exact xxor_ok kk mm _ (wd c) _ 0 hk' hm' this w h
  · exact xored_ok kk nn _ hk' hn' (by simp; omega) c (by simp; omega) w h
  · rw [wd_plus c a (by omega)]
    have := wd_lt c
    exact IntWalk.i64_in _ (by omega)
  · exact xored_cut kk nn D c a (by omega)
  · have e : (c + UInt32.ofNat a).toNat = c.toNat + a := by
      rw [UInt32.toNat_add, UInt32.toNat_ofNat_of_lt' (by show a < 4294967296; omega), Nat.mod_eq_of_lt (by omega)]
    exact xored_ok kk nn _ hk' hn' (by simp; omega) (c + UInt32.ofNat a) (by rw [e]; simp; omega) w h

set_option maxRecDepth 100000 in
set_option maxHeartbeats 2000000 in
theorem back_law (k : ByteArray) (_ : k.size ≤ 140737488351232) (x : Int) (hx0 : (Lit.int .i64 x).wf = true) (n : ByteArray) (_ : n.size ≤ 140737488351232) (d : ByteArray) (hd : d.size ≤ 140737488351232) (cut : Int) (hcut0 : (Lit.int .i64 cut).wf = true) (w : World) (hR : Rounds w) :
    Calls Tryd.prog 10 #[.string k, .int .i64 x, .string n, .string d, .int .i64 cut] w fun e w' => e = .returned (.bool true) ∧ Fr [] w w' := by
  have hcs := cutD_size d
  have hcut : (65536 < d.size → d.extract 0 65536 = cutD d) ∧ (¬ 65536 < d.size → d = cutD d) := by
    unfold cutD
    constructor
    · intro h; rw [if_pos h]
    · intro h; rw [if_neg h]
  generalize cutD d = D at hcs hcut
  have hk' := fit_size k 32
  have hn' := fit_size n 12
  have hm' := fit_size n 24
  have hsk := sized32_any k
  have hsn := sized12_any n
  have hsm := sized24_any n
  generalize fit k 32 = kk at hk' hsk
  generalize fit n 12 = nn at hn' hsn
  generalize fit n 24 = mm at hm' hsm
  have hctr := Lib.hid (fun w => counter_any x hx0 D.size (by omega) w)
  have hsn1 := hsn
  have hsn2 := hsn
  have hsn3 := hsn
  have hsn4 := hsn
  have hsm1 := hsm
  have hn0 := fun w => num4_any 0 (by omega) (by omega) w
  clear hsn
  by_cases hb : 65536 < d.size
  · have hDe := hcut.1 hb
    have hbi : (65536 : Int) < d.size := by omega
    clear hcut
    go_enter Tryd.func10, Tryd.ntmps10
    go_upto_region 9 with (first
      | (go_at_call 26; refine (known_any _ hR).mono ?_; rintro e w1 ⟨rfl, f1⟩; have hF := f1)
      | (go_at_call 29; (refine (hsk _).mono ?_; clear hsk; rintro e w2 ⟨rfl, f2⟩; have hF : Fr [] w w2 := (by first | exact hF.trans f2 | exact hF.trans ((Fr.drewN [] _ _).trans f2))))
      | (go_at_call 30; refine (hctr.out _).mono ?_; rintro e w2 ⟨c, rfl, hroom, q2, rfl⟩)
      | fail)
    have hF := hF.trans (Fr.drewN [] _ q2)
    obtain ⟨hx1, hx2, hx5, hx6, hx3, hx4, z1, z2⟩ := back_facts kk nn mm D c hk' hn' hm' hcs hroom
    generalize hS1 : xored kk nn D c = S1 at hx1 hx2 z1 hx3 hx4
    generalize xored (subKey kk mm) (subNonce mm) D c = S2 at hx5 hx6 z2
    have hcw := wd_lt c
    generalize w2.drewN q2 = V at hF ⊢
    go_upto_region 17 with (first
      | (go_at_call 29; first | (refine (hsn1 _).mono ?_; clear hsn1; rintro e w2 ⟨rfl, f2⟩; have hF : Fr [] w w2 := (by first | exact hF.trans f2 | exact hF.trans ((Fr.drewN [] _ _).trans f2))) | (refine (hsn2 _).mono ?_; clear hsn2; rintro e w2 ⟨rfl, f2⟩; have hF : Fr [] w w2 := (by first | exact hF.trans f2 | exact hF.trans ((Fr.drewN [] _ _).trans f2))) | (refine (hsm _).mono ?_; clear hsm; rintro e w2 ⟨rfl, f2⟩; have hF : Fr [] w w2 := (by first | exact hF.trans f2 | exact hF.trans ((Fr.drewN [] _ _).trans f2))) | (refine (hsm1 _).mono ?_; clear hsm1; rintro e w2 ⟨rfl, f2⟩; have hF : Fr [] w w2 := (by first | exact hF.trans f2 | exact hF.trans ((Fr.drewN [] _ _).trans f2))))
      | (go_at_call 24; first | (refine (hx1 _ (by exact hR.keep hF (by simp))).mono ?_; clear hx1; rintro e w2 ⟨rfl, f2⟩; have hF : Fr [] w w2 := (by first | exact hF.trans f2 | exact hF.trans ((Fr.drewN [] _ _).trans f2))) | (refine (hx2 _ (by exact hR.keep hF (by simp))).mono ?_; clear hx2; rintro e w2 ⟨rfl, f2⟩; have hF : Fr [] w w2 := (by first | exact hF.trans f2 | exact hF.trans ((Fr.drewN [] _ _).trans f2))))
      | (go_at_call 27; first | (refine (hx5 _ (by exact hR.keep hF (by simp))).mono ?_; clear hx5; rintro e w2 ⟨rfl, f2⟩; have hF : Fr [] w w2 := (by first | exact hF.trans f2 | exact hF.trans ((Fr.drewN [] _ _).trans f2))) | (refine (hx6 _ (by exact hR.keep hF (by simp))).mono ?_; clear hx6; rintro e w2 ⟨rfl, f2⟩; have hF : Fr [] w w2 := (by first | exact hF.trans f2 | exact hF.trans ((Fr.drewN [] _ _).trans f2))))
      | (go_at_call 21; refine (hn0 _).mono ?_; rintro e w5 ⟨rfl, qn, rfl⟩)
      | fail)
    obtain ⟨b, hbd⟩ : ∃ b : Nat, b = D.size / 64 := ⟨_, rfl⟩
    have hbr : (D.size : Int) / 64 = b := by omega
    have bw : IntKind.i64.wrap ((b : Int) + 1) = (b : Int) + 1 := IntWalk.i64_in _ (by omega)
    have b0 : ((b : Int) + 1) ≠ 0 := by omega
    obtain ⟨m, hm⟩ : ∃ m, cut.tmod ((b : Int) + 1) = m := ⟨_, rfl⟩
    have m0 : -((b : Int) + 1) < m := by rw [← hm]; have := Int.lt_tmod_of_pos cut (show (0 : Int) < (b : Int) + 1 by omega); omega
    have m1 : m < (b : Int) + 1 := by rw [← hm]; exact Int.tmod_lt_of_pos cut (by omega)
    have mw : IntKind.i64.wrap m = m := IntWalk.i64_in _ (by omega)
    by_cases hneg : m < 0
    · have w1 : IntKind.i64.wrap (m + (b : Int)) = m + b := IntWalk.i64_in _ (by omega)
      have w2 : IntKind.i64.wrap (m + (b : Int) + 1) = m + b + 1 := IntWalk.i64_in _ (by omega)
      obtain ⟨a, ha⟩ : ∃ a : Nat, m + (b : Int) + 1 = a := ⟨(m + (b : Int) + 1).toNat, by omega⟩
      have ma : 64 * a ≤ D.size := by omega
      have aw : IntKind.i64.wrap (64 * (a : Int)) = 64 * (a : Int) := IntWalk.i64_in _ (by omega)
      by_cases he : 64 * a = D.size
      · have hei : (64 * (a : Int) = D.size) := by omega
        clear hbd he
        go_wp2_with fail
        go_ret
        exact ⟨rfl, hF.trans (Fr.drewN _ _ _)⟩
      · have hei : ¬ (64 * (a : Int) = D.size) := by omega
        have l0 : (0 : Int) ≤ 64 * (a : Int) := by omega
        have l1 : 64 * (a : Int) ≤ D.size := by omega
        have l2 : (64 * (a : Int)).toNat = 64 * a := by omega
        have hx3 := hx3 a (by omega)
        obtain ⟨⟨hcc, hAB⟩, _⟩ := hx4 a (by omega) w hR
        have hx4 := fun w h => (hx4 a (by omega) w h).2
        generalize xored kk nn (D.extract 0 (64 * a)) c = A at hx3 hAB
        generalize xored kk nn (D.extract (64 * a) D.size) (c + UInt32.ofNat a) = B at hx4 hAB
        generalize c + UInt32.ofNat a = c' at hcc hx4
        have hABn : ¬ 9223372036854775807 < A.size + B.size := by have h5 := congrArg ByteArray.size hAB; rw [ByteArray.size_append] at h5; omega
        clear ma he hbd
        go_wp2_with fail
        go_region_held3 (fun _ => True) (trivial) (first
          | (go_at_call 29; refine (hsn3 _).mono ?_; rintro e w4 ⟨rfl, f4⟩; have hF : Fr [] w w4 := (by first | exact hF.trans f4 | exact hF.trans ((Fr.drewN [] _ _).trans f4) | exact hF.trans ((Fr.drewN [] _ _).trans ((Fr.drew [] _).trans f4))))
          | (go_at_call 24; refine (hx3 _ (by exact hR.keep hF (by simp))).mono ?_; rintro e w5 ⟨rfl, f5⟩; have hF : Fr [] w w5 := hF.trans f5))
        go_wp2_with fail
        go_region_held3 (fun _ => True) (trivial) (first
          | (go_at_call 29; refine (hsn4 _).mono ?_; rintro e w4 ⟨rfl, f4⟩; have hF : Fr [] w w4 := (by first | exact hF.trans f4 | exact hF.trans ((Fr.drewN [] _ _).trans f4) | exact hF.trans ((Fr.drew [] _).trans f4)))
          | (go_at_call 24; refine (hx4 _ (by exact hR.keep hF (by simp))).mono ?_; rintro e w5 ⟨rfl, f5⟩; have hF : Fr [] w w5 := hF.trans f5))
        go_wp2_with (first
          | (go_at_call 21; refine (hn0 _).mono ?_; rintro e w5 ⟨rfl, qn, rfl⟩)
          | fail)
        go_ret
        exact ⟨rfl, hF.trans (Fr.drewN _ _ _)⟩
    · obtain ⟨a, rfl⟩ : ∃ a : Nat, m = a := ⟨m.toNat, by omega⟩
      have ma : 64 * a ≤ D.size := by omega
      have aw : IntKind.i64.wrap (64 * (a : Int)) = 64 * (a : Int) := IntWalk.i64_in _ (by omega)
      by_cases he : 64 * a = D.size
      · have hei : (64 * (a : Int) = D.size) := by omega
        clear hbd he
        go_wp2_with fail
        go_ret
        exact ⟨rfl, hF.trans (Fr.drewN _ _ _)⟩
      · have hei : ¬ (64 * (a : Int) = D.size) := by omega
        have l0 : (0 : Int) ≤ 64 * (a : Int) := by omega
        have l1 : 64 * (a : Int) ≤ D.size := by omega
        have l2 : (64 * (a : Int)).toNat = 64 * a := by omega
        have hx3 := hx3 a (by omega)
        obtain ⟨⟨hcc, hAB⟩, _⟩ := hx4 a (by omega) w hR
        have hx4 := fun w h => (hx4 a (by omega) w h).2
        generalize xored kk nn (D.extract 0 (64 * a)) c = A at hx3 hAB
        generalize xored kk nn (D.extract (64 * a) D.size) (c + UInt32.ofNat a) = B at hx4 hAB
        generalize c + UInt32.ofNat a = c' at hcc hx4
        have hABn : ¬ 9223372036854775807 < A.size + B.size := by have h5 := congrArg ByteArray.size hAB; rw [ByteArray.size_append] at h5; omega
        clear ma he hbd
        go_wp2_with fail
        go_region_held3 (fun _ => True) (trivial) (first
          | (go_at_call 29; refine (hsn3 _).mono ?_; rintro e w4 ⟨rfl, f4⟩; have hF : Fr [] w w4 := (by first | exact hF.trans f4 | exact hF.trans ((Fr.drewN [] _ _).trans f4) | exact hF.trans ((Fr.drewN [] _ _).trans ((Fr.drew [] _).trans f4))))
          | (go_at_call 24; refine (hx3 _ (by exact hR.keep hF (by simp))).mono ?_; rintro e w5 ⟨rfl, f5⟩; have hF : Fr [] w w5 := hF.trans f5))
        go_wp2_with fail
        go_region_held3 (fun _ => True) (trivial) (first
          | (go_at_call 29; refine (hsn4 _).mono ?_; rintro e w4 ⟨rfl, f4⟩; have hF : Fr [] w w4 := (by first | exact hF.trans f4 | exact hF.trans ((Fr.drewN [] _ _).trans f4) | exact hF.trans ((Fr.drew [] _).trans f4)))
          | (go_at_call 24; refine (hx4 _ (by exact hR.keep hF (by simp))).mono ?_; rintro e w5 ⟨rfl, f5⟩; have hF : Fr [] w w5 := hF.trans f5))
        go_wp2_with (first
          | (go_at_call 21; refine (hn0 _).mono ?_; rintro e w5 ⟨rfl, qn, rfl⟩)
          | fail)
        go_ret
        exact ⟨rfl, hF.trans (Fr.drewN _ _ _)⟩
  · obtain rfl := hcut.2 hb
    have hbi : ¬ (65536 : Int) < d.size := by omega
    clear hcut
    go_enter Tryd.func10, Tryd.ntmps10
    go_upto_region 9 with (first
      | (go_at_call 26; refine (known_any _ hR).mono ?_; rintro e w1 ⟨rfl, f1⟩; have hF := f1)
      | (go_at_call 29; (refine (hsk _).mono ?_; clear hsk; rintro e w2 ⟨rfl, f2⟩; have hF : Fr [] w w2 := (by first | exact hF.trans f2 | exact hF.trans ((Fr.drewN [] _ _).trans f2))))
      | (go_at_call 30; refine (hctr.out _).mono ?_; rintro e w2 ⟨c, rfl, hroom, q2, rfl⟩)
      | fail)
    have hF := hF.trans (Fr.drewN [] _ q2)
    obtain ⟨hx1, hx2, hx5, hx6, hx3, hx4, z1, z2⟩ := back_facts kk nn mm d c hk' hn' hm' hcs hroom
    generalize hS1 : xored kk nn d c = S1 at hx1 hx2 z1 hx3 hx4
    generalize xored (subKey kk mm) (subNonce mm) d c = S2 at hx5 hx6 z2
    have hcw := wd_lt c
    generalize w2.drewN q2 = V at hF ⊢
    go_upto_region 17 with (first
      | (go_at_call 29; first | (refine (hsn1 _).mono ?_; clear hsn1; rintro e w2 ⟨rfl, f2⟩; have hF : Fr [] w w2 := (by first | exact hF.trans f2 | exact hF.trans ((Fr.drewN [] _ _).trans f2))) | (refine (hsn2 _).mono ?_; clear hsn2; rintro e w2 ⟨rfl, f2⟩; have hF : Fr [] w w2 := (by first | exact hF.trans f2 | exact hF.trans ((Fr.drewN [] _ _).trans f2))) | (refine (hsm _).mono ?_; clear hsm; rintro e w2 ⟨rfl, f2⟩; have hF : Fr [] w w2 := (by first | exact hF.trans f2 | exact hF.trans ((Fr.drewN [] _ _).trans f2))) | (refine (hsm1 _).mono ?_; clear hsm1; rintro e w2 ⟨rfl, f2⟩; have hF : Fr [] w w2 := (by first | exact hF.trans f2 | exact hF.trans ((Fr.drewN [] _ _).trans f2))))
      | (go_at_call 24; first | (refine (hx1 _ (by exact hR.keep hF (by simp))).mono ?_; clear hx1; rintro e w2 ⟨rfl, f2⟩; have hF : Fr [] w w2 := (by first | exact hF.trans f2 | exact hF.trans ((Fr.drewN [] _ _).trans f2))) | (refine (hx2 _ (by exact hR.keep hF (by simp))).mono ?_; clear hx2; rintro e w2 ⟨rfl, f2⟩; have hF : Fr [] w w2 := (by first | exact hF.trans f2 | exact hF.trans ((Fr.drewN [] _ _).trans f2))))
      | (go_at_call 27; first | (refine (hx5 _ (by exact hR.keep hF (by simp))).mono ?_; clear hx5; rintro e w2 ⟨rfl, f2⟩; have hF : Fr [] w w2 := (by first | exact hF.trans f2 | exact hF.trans ((Fr.drewN [] _ _).trans f2))) | (refine (hx6 _ (by exact hR.keep hF (by simp))).mono ?_; clear hx6; rintro e w2 ⟨rfl, f2⟩; have hF : Fr [] w w2 := (by first | exact hF.trans f2 | exact hF.trans ((Fr.drewN [] _ _).trans f2))))
      | (go_at_call 21; refine (hn0 _).mono ?_; rintro e w5 ⟨rfl, qn, rfl⟩)
      | fail)
    obtain ⟨b, hbd⟩ : ∃ b : Nat, b = d.size / 64 := ⟨_, rfl⟩
    have hbr : (d.size : Int) / 64 = b := by omega
    have bw : IntKind.i64.wrap ((b : Int) + 1) = (b : Int) + 1 := IntWalk.i64_in _ (by omega)
    have b0 : ((b : Int) + 1) ≠ 0 := by omega
    obtain ⟨m, hm⟩ : ∃ m, cut.tmod ((b : Int) + 1) = m := ⟨_, rfl⟩
    have m0 : -((b : Int) + 1) < m := by rw [← hm]; have := Int.lt_tmod_of_pos cut (show (0 : Int) < (b : Int) + 1 by omega); omega
    have m1 : m < (b : Int) + 1 := by rw [← hm]; exact Int.tmod_lt_of_pos cut (by omega)
    have mw : IntKind.i64.wrap m = m := IntWalk.i64_in _ (by omega)
    by_cases hneg : m < 0
    · have w1 : IntKind.i64.wrap (m + (b : Int)) = m + b := IntWalk.i64_in _ (by omega)
      have w2 : IntKind.i64.wrap (m + (b : Int) + 1) = m + b + 1 := IntWalk.i64_in _ (by omega)
      obtain ⟨a, ha⟩ : ∃ a : Nat, m + (b : Int) + 1 = a := ⟨(m + (b : Int) + 1).toNat, by omega⟩
      have ma : 64 * a ≤ d.size := by omega
      have aw : IntKind.i64.wrap (64 * (a : Int)) = 64 * (a : Int) := IntWalk.i64_in _ (by omega)
      by_cases he : 64 * a = d.size
      · have hei : (64 * (a : Int) = d.size) := by omega
        clear hbd he
        go_wp2_with fail
        go_ret
        exact ⟨rfl, hF.trans (Fr.drewN _ _ _)⟩
      · have hei : ¬ (64 * (a : Int) = d.size) := by omega
        have l0 : (0 : Int) ≤ 64 * (a : Int) := by omega
        have l1 : 64 * (a : Int) ≤ d.size := by omega
        have l2 : (64 * (a : Int)).toNat = 64 * a := by omega
        have hx3 := hx3 a (by omega)
        obtain ⟨⟨hcc, hAB⟩, _⟩ := hx4 a (by omega) w hR
        have hx4 := fun w h => (hx4 a (by omega) w h).2
        generalize xored kk nn (d.extract 0 (64 * a)) c = A at hx3 hAB
        generalize xored kk nn (d.extract (64 * a) d.size) (c + UInt32.ofNat a) = B at hx4 hAB
        generalize c + UInt32.ofNat a = c' at hcc hx4
        have hABn : ¬ 9223372036854775807 < A.size + B.size := by have h5 := congrArg ByteArray.size hAB; rw [ByteArray.size_append] at h5; omega
        clear ma he hbd
        go_wp2_with fail
        go_region_held3 (fun _ => True) (trivial) (first
          | (go_at_call 29; refine (hsn3 _).mono ?_; rintro e w4 ⟨rfl, f4⟩; have hF : Fr [] w w4 := (by first | exact hF.trans f4 | exact hF.trans ((Fr.drewN [] _ _).trans f4) | exact hF.trans ((Fr.drewN [] _ _).trans ((Fr.drew [] _).trans f4))))
          | (go_at_call 24; refine (hx3 _ (by exact hR.keep hF (by simp))).mono ?_; rintro e w5 ⟨rfl, f5⟩; have hF : Fr [] w w5 := hF.trans f5))
        go_wp2_with fail
        go_region_held3 (fun _ => True) (trivial) (first
          | (go_at_call 29; refine (hsn4 _).mono ?_; rintro e w4 ⟨rfl, f4⟩; have hF : Fr [] w w4 := (by first | exact hF.trans f4 | exact hF.trans ((Fr.drewN [] _ _).trans f4) | exact hF.trans ((Fr.drew [] _).trans f4)))
          | (go_at_call 24; refine (hx4 _ (by exact hR.keep hF (by simp))).mono ?_; rintro e w5 ⟨rfl, f5⟩; have hF : Fr [] w w5 := hF.trans f5))
        go_wp2_with (first
          | (go_at_call 21; refine (hn0 _).mono ?_; rintro e w5 ⟨rfl, qn, rfl⟩)
          | fail)
        go_ret
        exact ⟨rfl, hF.trans (Fr.drewN _ _ _)⟩
    · obtain ⟨a, rfl⟩ : ∃ a : Nat, m = a := ⟨m.toNat, by omega⟩
      have ma : 64 * a ≤ d.size := by omega
      have aw : IntKind.i64.wrap (64 * (a : Int)) = 64 * (a : Int) := IntWalk.i64_in _ (by omega)
      by_cases he : 64 * a = d.size
      · have hei : (64 * (a : Int) = d.size) := by omega
        clear hbd he
        go_wp2_with fail
        go_ret
        exact ⟨rfl, hF.trans (Fr.drewN _ _ _)⟩
      · have hei : ¬ (64 * (a : Int) = d.size) := by omega
        have l0 : (0 : Int) ≤ 64 * (a : Int) := by omega
        have l1 : 64 * (a : Int) ≤ d.size := by omega
        have l2 : (64 * (a : Int)).toNat = 64 * a := by omega
        have hx3 := hx3 a (by omega)
        obtain ⟨⟨hcc, hAB⟩, _⟩ := hx4 a (by omega) w hR
        have hx4 := fun w h => (hx4 a (by omega) w h).2
        generalize xored kk nn (d.extract 0 (64 * a)) c = A at hx3 hAB
        generalize xored kk nn (d.extract (64 * a) d.size) (c + UInt32.ofNat a) = B at hx4 hAB
        generalize c + UInt32.ofNat a = c' at hcc hx4
        have hABn : ¬ 9223372036854775807 < A.size + B.size := by have h5 := congrArg ByteArray.size hAB; rw [ByteArray.size_append] at h5; omega
        clear ma he hbd
        go_wp2_with fail
        go_region_held3 (fun _ => True) (trivial) (first
          | (go_at_call 29; refine (hsn3 _).mono ?_; rintro e w4 ⟨rfl, f4⟩; have hF : Fr [] w w4 := (by first | exact hF.trans f4 | exact hF.trans ((Fr.drewN [] _ _).trans f4) | exact hF.trans ((Fr.drewN [] _ _).trans ((Fr.drew [] _).trans f4))))
          | (go_at_call 24; refine (hx3 _ (by exact hR.keep hF (by simp))).mono ?_; rintro e w5 ⟨rfl, f5⟩; have hF : Fr [] w w5 := hF.trans f5))
        go_wp2_with fail
        go_region_held3 (fun _ => True) (trivial) (first
          | (go_at_call 29; refine (hsn4 _).mono ?_; rintro e w4 ⟨rfl, f4⟩; have hF : Fr [] w w4 := (by first | exact hF.trans f4 | exact hF.trans ((Fr.drewN [] _ _).trans f4) | exact hF.trans ((Fr.drew [] _).trans f4)))
          | (go_at_call 24; refine (hx4 _ (by exact hR.keep hF (by simp))).mono ?_; rintro e w5 ⟨rfl, f5⟩; have hF : Fr [] w w5 := hF.trans f5))
        go_wp2_with (first
          | (go_at_call 21; refine (hn0 _).mono ?_; rintro e w5 ⟨rfl, qn, rfl⟩)
          | fail)
        go_ret
        exact ⟨rfl, hF.trans (Fr.drewN _ _ _)⟩
end Go.Proofs.YtmgfhamfbdaeiaaDoor
