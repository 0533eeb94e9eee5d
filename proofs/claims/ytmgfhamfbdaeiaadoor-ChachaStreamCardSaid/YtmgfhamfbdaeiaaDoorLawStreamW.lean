/- The law ChachaStream walked. -/
import Derived.Test.YtmgfhamfbdaeiaaDoorLawBackW
namespace Go.Proofs.YtmgfhamfbdaeiaaDoor
open Go.RowKit Go.Lib Base
set_option linter.unusedVariables false
set_option linter.unusedSimpArgs false

/-- j blocks, one behind the other. -/
def blks (K N : List UInt8) (c : UInt32) : Nat → List UInt8
  | 0 => []
  | j + 1 => blks K N c j ++ blk K N (c + UInt32.ofNat j)
theorem blks_len (K N : List UInt8) (c : UInt32) (hk : K.length = 32) (hn : N.length = 12) : ∀ j, (blks K N c j).length = 64 * j
  | 0 => rfl
  | j + 1 => by rw [blks, List.length_append, blks_len K N c hk hn j, blk_len K N _ hk hn]; omega
theorem blks_get (K N : List UInt8) (c : UInt32) (hk : K.length = 32) (hn : N.length = 12) : ∀ j i, i < 64 * j → (blks K N c j)[i]? = some (ksAt K N c i)
  | 0, i, h => by omega
  | j + 1, i, h => by
    rw [blks]
    by_cases hi : i < 64 * j
    · rw [List.getElem?_append_left (by rw [blks_len K N c hk hn]; exact hi)]
      exact blks_get K N c hk hn j i hi
    · rw [List.getElem?_append_right (by rw [blks_len K N c hk hn]; omega), blks_len K N c hk hn]
      have := ksAt_block K N c j (i - 64 * j) (by omega)
      rw [show 64 * j + (i - 64 * j) = i by omega] at this
      rw [this]
      have hl := blk_len K N (c + UInt32.ofNat j) hk hn
      simp [List.getD, show i - 64 * j < (blk K N (c + UInt32.ofNat j)).length by omega]
/-- The stream over zeros is the blocks. -/
theorem xor_zeros (K N : List UInt8) (c : UInt32) (hk : K.length = 32) (hn : N.length = 12) (l j : Nat) (h : l ≤ 64 * j) : xorAll (ksAt K N c) (zerosB l) = (blks K N c j).take l := by
  apply List.ext_getElem?; intro i
  rw [List.getElem?_take]
  by_cases hi : i < l
  · rw [if_pos hi, blks_get K N c hk hn j i (by omega)]
    simp [xorAll, zerosB, List.getElem?_mapIdx, List.getElem?_replicate, hi]
  · rw [if_neg hi]
    simp [xorAll, zerosB, List.getElem?_mapIdx, List.getElem?_replicate, hi]

set_option maxRecDepth 100000 in
set_option maxHeartbeats 2000000 in
theorem stream_law (k : ByteArray) (_ : k.size ≤ 140737488351232) (x : Int) (hx0 : (Lit.int .i64 x).wf = true) (n : ByteArray) (_ : n.size ≤ 140737488351232) (size : Int) (hs0 : (Lit.int .i64 size).wf = true) (w : World) (hR : Rounds w) :
    Calls Tryd.prog 8 #[.string k, .int .i64 x, .string n, .int .i64 size] w fun e w' => e = .returned (.bool true) ∧ Fr [] w w' := by
  have hk' := fit_size k 32
  have hn' := fit_size n 12
  have hsk := sized32_any k
  have hsn := sized12_any n
  generalize fit k 32 = kk at hk' hsk
  generalize fit n 12 = nn at hn' hsn
  obtain ⟨m, hm⟩ : ∃ m, size.tmod 1001 = m := ⟨_, rfl⟩
  have m0 : -1001 < m := by rw [← hm]; have := Int.lt_tmod_of_pos size (show (0 : Int) < 1001 by omega); omega
  have m1 : m < 1001 := by rw [← hm]; exact Int.tmod_lt_of_pos size (by omega)
  have mw : IntKind.i64.wrap m = m := IntWalk.i64_in _ (by omega)
  have hn0 := fun w => num4_any 0 (by omega) (by omega) w
  by_cases hneg : m < 0
  · obtain ⟨l, hl⟩ : ∃ l : Nat, m + 1001 = l := ⟨(m + 1001).toNat, by omega⟩
    have mw1 : IntKind.i64.wrap (m + 1001) = m + 1001 := IntWalk.i64_in _ (by omega)
    have hll : l ≤ 1000 := by omega
    have hmk := run_mk (P := Tryd.prog) Tryd.underlying38 (by kernel_rfl) l (by omega)
    have hctr := Lib.hid (fun w => counter_any x hx0 l (by omega) w)
    obtain ⟨Z, hZ⟩ : ∃ Z : ByteArray, Z = ⟨(zerosB l).toArray⟩ := ⟨_, rfl⟩
    have hZs : Z.size = l := by rw [hZ]; show (zerosB l).toArray.size = l; simp [zerosB]
    have hcz : ∀ W g c', At W g 5 (byteCells (zerosB l)) → (convert 38 9 (.slice (some ⟨g, 0, none⟩) l c')).run Tryd.prog W = .ok (.string Z) W := by
      intro W g c' A
      rw [hZ]
      exact run_strB (P := Tryd.prog) (d := 9) Tryd.underlying38 Tryd.underlying5 Tryd.underlying9 W g 0 c' 5 (zerosB l) [] [] (by rw [List.nil_append, List.append_nil]; exact A) rfl l (by simp [zerosB])
    have HCZ := Lib.hid hcz
    have HZ := Lib.hid hZ
    clear hcz hZ
    go_enter Tryd.func8, Tryd.ntmps8
    go_upto_region 10 with (first
      | (go_at_call 26; refine (known_any _ hR).mono ?_; rintro e w1 ⟨rfl, f1⟩; have hF := f1)
      | (go_at_call 29; first | (refine (hsk _).mono ?_; clear hsk; rintro e w2 ⟨rfl, f2⟩; have hF : Fr [] w w2 := (by first | exact hF.trans f2 | exact hF.trans ((Fr.drewN [] _ _).trans f2))) | (refine (hsn _).mono ?_; clear hsn; rintro e w2 ⟨rfl, f2⟩; have hF : Fr [] w w2 := (by first | exact hF.trans f2 | exact hF.trans ((Fr.drewN [] _ _).trans f2))))
      | (go_at_call 30; refine (hctr.out _).mono ?_; rintro e w3 ⟨c, rfl, hroom, q2, rfl⟩)
      | fail)
    have hcv := HCZ.out ((w2.alloc (.cells (byteCells (zerosB l)).toArray 5)).drewN q2) w2.heap.size l ((At.alloc_new w2 5 (byteCells (zerosB l)).toArray).drewN q2)
    have hX := fun w h => xored_ok kk nn Z hk' hn' (by omega) c (by rw [hZs]; exact hroom) w h
    have hSs := xored_size kk nn Z c
    have hSl : (xored kk nn Z c).data.toList = xorAll (ksAt kk.data.toList nn.data.toList c) (zerosB l) := by rw [xored_list, HZ.out]
    generalize xored kk nn Z c = S at hX hSs hSl
    rw [hZs] at hSs
    have HSl := Lib.hid hSl
    clear hSl
    have hkl : kk.data.toList.length = 32 := by simpa using hk'
    have hnl : nn.data.toList.length = 12 := by simpa using hn'
    have hF' : Fr [] w ((w2.alloc (.cells (byteCells (zerosB l)).toArray 5)).drewN q2) := hF.trans ((Fr.alloc _ _ _).trans (Fr.drewN _ _ _))
    go_wp2_with (first
      | (go_at_call 24; refine (hX _ (by exact hR.keep hF' (by simp))).mono ?_; rintro e w4 ⟨rfl, f4⟩; have hF4 := hF'.trans f4)
      | fail)
    have hblk := Lib.hid (fun j w h => block_ok kk nn hk' hn' (c + UInt32.ofNat j) w h)
    clear hX hcv hF' hF f4
    go_loopw [16, 17] (fun v16 v17 wr => ∃ j : Nat, ∃ sv : ByteArray, 64 * j < l + 64 ∧ v17 = .int .i64 j ∧ v16 = .string sv ∧ sv.data.toList = blks kk.data.toList nn.data.toList c j ∧ Fr [] w wr) (fun _ v _ => l + 64 - 64 * (intOf v).toNat)
    case atStart => exact ⟨0, _, by omega, rfl, rfl, rfl, hF4⟩
    case round =>
      clear hF4
      obtain ⟨j, sv, hj, rfl, rfl, hsv, hF⟩ := hrel
      have svl : sv.size = 64 * j := by have := congrArg List.length hsv; rw [blks_len _ _ _ hkl hnl] at this; simpa using this
      have jw : IntKind.i64.wrap (64 * (j : Int)) = 64 * (j : Int) := IntWalk.i64_in _ (by omega)
      by_cases hlt : 64 * j < l
      · have l1 : 64 * (j : Int) < l := by omega
        have cw : IntKind.i64.wrap (wd c + (j : Int)) = wd (c + UInt32.ofNat j) := by
          have := wd_lt c
          rw [wd_plus c j (by omega)]; exact IntWalk.i64_in _ (by omega)
        have hb := hblk.out j
        obtain ⟨B, hB⟩ : ∃ B : ByteArray, B = ⟨(blk kk.data.toList nn.data.toList (c + UInt32.ofNat j)).toArray⟩ := ⟨_, rfl⟩
        rw [← hB] at hb
        have hBl : B.data.toList = blk kk.data.toList nn.data.toList (c + UInt32.ofNat j) := by rw [hB]
        have hBs : B.size = 64 := by
          have h5 := congrArg List.length hBl
          rw [blk_len _ _ _ hkl hnl] at h5
          simpa using h5
        have hcat : (sv ++ B).data.toList = blks kk.data.toList nn.data.toList c (j + 1) := by
          have : (sv ++ B).data.toList = sv.data.toList ++ B.data.toList := by simp
          rw [this, hsv, hBl, blks]
        have HC := Lib.hid hcat
        clear hcat
        have big : ¬ 9223372036854775807 < 64 * j + 64 := by omega
        clear hB hsv hBl
        generalize c + UInt32.ofNat j = cj at cw hb
        go_wp2_with (first
          | (go_at_call 22; refine (hb _ (by exact hR.keep hF (by simp))).mono ?_; rintro e w5 ⟨rfl, f5⟩; have hF := hF.trans f5)
          | (go_at_call 21; refine (hn0 _).mono ?_; rintro e w6 ⟨rfl, qn, rfl⟩)
          | fail)
        refine ⟨⟨j + 1, sv ++ B, by omega, by simp, rfl, HC.out, hF.trans (Fr.drewN _ _ _)⟩, by simp only [intOf]; omega⟩
      · have l1 : ¬ 64 * (j : Int) < l := by omega
        have l2 : (l : Int) ≤ 64 * (j : Int) := by omega
        have hfin : sv.extract 0 l = S := by
          apply ByteArray.ext
          apply Array.toList_inj.1
          rw [HSl.out, xor_zeros _ _ _ hkl hnl l j (by omega), ← hsv]
          simp
        clear hsv
        go_wp2_with (first
          | (go_at_call 21; refine (hn0 _).mono ?_; rintro e w6 ⟨rfl, qn, rfl⟩)
          | fail)
        go_ret
        exact ⟨rfl, hF.trans (Fr.drewN _ _ _)⟩
  · obtain ⟨l, rfl⟩ : ∃ l : Nat, m = l := ⟨m.toNat, by omega⟩
    have hll : l ≤ 1000 := by omega
    have hmk := run_mk (P := Tryd.prog) Tryd.underlying38 (by kernel_rfl) l (by omega)
    have hctr := Lib.hid (fun w => counter_any x hx0 l (by omega) w)
    obtain ⟨Z, hZ⟩ : ∃ Z : ByteArray, Z = ⟨(zerosB l).toArray⟩ := ⟨_, rfl⟩
    have hZs : Z.size = l := by rw [hZ]; show (zerosB l).toArray.size = l; simp [zerosB]
    have hcz : ∀ W g c', At W g 5 (byteCells (zerosB l)) → (convert 38 9 (.slice (some ⟨g, 0, none⟩) l c')).run Tryd.prog W = .ok (.string Z) W := by
      intro W g c' A
      rw [hZ]
      exact run_strB (P := Tryd.prog) (d := 9) Tryd.underlying38 Tryd.underlying5 Tryd.underlying9 W g 0 c' 5 (zerosB l) [] [] (by rw [List.nil_append, List.append_nil]; exact A) rfl l (by simp [zerosB])
    have HCZ := Lib.hid hcz
    have HZ := Lib.hid hZ
    clear hcz hZ
    go_enter Tryd.func8, Tryd.ntmps8
    go_upto_region 10 with (first
      | (go_at_call 26; refine (known_any _ hR).mono ?_; rintro e w1 ⟨rfl, f1⟩; have hF := f1)
      | (go_at_call 29; first | (refine (hsk _).mono ?_; clear hsk; rintro e w2 ⟨rfl, f2⟩; have hF : Fr [] w w2 := (by first | exact hF.trans f2 | exact hF.trans ((Fr.drewN [] _ _).trans f2))) | (refine (hsn _).mono ?_; clear hsn; rintro e w2 ⟨rfl, f2⟩; have hF : Fr [] w w2 := (by first | exact hF.trans f2 | exact hF.trans ((Fr.drewN [] _ _).trans f2))))
      | (go_at_call 30; refine (hctr.out _).mono ?_; rintro e w3 ⟨c, rfl, hroom, q2, rfl⟩)
      | fail)
    have hcv := HCZ.out ((w2.alloc (.cells (byteCells (zerosB l)).toArray 5)).drewN q2) w2.heap.size l ((At.alloc_new w2 5 (byteCells (zerosB l)).toArray).drewN q2)
    have hX := fun w h => xored_ok kk nn Z hk' hn' (by omega) c (by rw [hZs]; exact hroom) w h
    have hSs := xored_size kk nn Z c
    have hSl : (xored kk nn Z c).data.toList = xorAll (ksAt kk.data.toList nn.data.toList c) (zerosB l) := by rw [xored_list, HZ.out]
    generalize xored kk nn Z c = S at hX hSs hSl
    rw [hZs] at hSs
    have HSl := Lib.hid hSl
    clear hSl
    have hkl : kk.data.toList.length = 32 := by simpa using hk'
    have hnl : nn.data.toList.length = 12 := by simpa using hn'
    have hF' : Fr [] w ((w2.alloc (.cells (byteCells (zerosB l)).toArray 5)).drewN q2) := hF.trans ((Fr.alloc _ _ _).trans (Fr.drewN _ _ _))
    go_wp2_with (first
      | (go_at_call 24; refine (hX _ (by exact hR.keep hF' (by simp))).mono ?_; rintro e w4 ⟨rfl, f4⟩; have hF4 := hF'.trans f4)
      | fail)
    have hblk := Lib.hid (fun j w h => block_ok kk nn hk' hn' (c + UInt32.ofNat j) w h)
    clear hX hcv hF' hF f4
    go_loopw [16, 17] (fun v16 v17 wr => ∃ j : Nat, ∃ sv : ByteArray, 64 * j < l + 64 ∧ v17 = .int .i64 j ∧ v16 = .string sv ∧ sv.data.toList = blks kk.data.toList nn.data.toList c j ∧ Fr [] w wr) (fun _ v _ => l + 64 - 64 * (intOf v).toNat)
    case atStart => exact ⟨0, _, by omega, rfl, rfl, rfl, hF4⟩
    case round =>
      clear hF4
      obtain ⟨j, sv, hj, rfl, rfl, hsv, hF⟩ := hrel
      have svl : sv.size = 64 * j := by have := congrArg List.length hsv; rw [blks_len _ _ _ hkl hnl] at this; simpa using this
      have jw : IntKind.i64.wrap (64 * (j : Int)) = 64 * (j : Int) := IntWalk.i64_in _ (by omega)
      by_cases hlt : 64 * j < l
      · have l1 : 64 * (j : Int) < l := by omega
        have cw : IntKind.i64.wrap (wd c + (j : Int)) = wd (c + UInt32.ofNat j) := by
          have := wd_lt c
          rw [wd_plus c j (by omega)]; exact IntWalk.i64_in _ (by omega)
        have hb := hblk.out j
        obtain ⟨B, hB⟩ : ∃ B : ByteArray, B = ⟨(blk kk.data.toList nn.data.toList (c + UInt32.ofNat j)).toArray⟩ := ⟨_, rfl⟩
        rw [← hB] at hb
        have hBl : B.data.toList = blk kk.data.toList nn.data.toList (c + UInt32.ofNat j) := by rw [hB]
        have hBs : B.size = 64 := by
          have h5 := congrArg List.length hBl
          rw [blk_len _ _ _ hkl hnl] at h5
          simpa using h5
        have hcat : (sv ++ B).data.toList = blks kk.data.toList nn.data.toList c (j + 1) := by
          have : (sv ++ B).data.toList = sv.data.toList ++ B.data.toList := by simp
          rw [this, hsv, hBl, blks]
        have HC := Lib.hid hcat
        clear hcat
        have big : ¬ 9223372036854775807 < 64 * j + 64 := by omega
        clear hB hsv hBl
        generalize c + UInt32.ofNat j = cj at cw hb
        go_wp2_with (first
          | (go_at_call 22; refine (hb _ (by exact hR.keep hF (by simp))).mono ?_; rintro e w5 ⟨rfl, f5⟩; have hF := hF.trans f5)
          | (go_at_call 21; refine (hn0 _).mono ?_; rintro e w6 ⟨rfl, qn, rfl⟩)
          | fail)
        refine ⟨⟨j + 1, sv ++ B, by omega, by simp, rfl, HC.out, hF.trans (Fr.drewN _ _ _)⟩, by simp only [intOf]; omega⟩
      · have l1 : ¬ 64 * (j : Int) < l := by omega
        have l2 : (l : Int) ≤ 64 * (j : Int) := by omega
        have hfin : sv.extract 0 l = S := by
          apply ByteArray.ext
          apply Array.toList_inj.1
          rw [HSl.out, xor_zeros _ _ _ hkl hnl l j (by omega), ← hsv]
          simp
        clear hsv
        go_wp2_with (first
          | (go_at_call 21; refine (hn0 _).mono ?_; rintro e w6 ⟨rfl, qn, rfl⟩)
          | fail)
        go_ret
        exact ⟨rfl, hF.trans (Fr.drewN _ _ _)⟩
end Go.Proofs.YtmgfhamfbdaeiaaDoor
