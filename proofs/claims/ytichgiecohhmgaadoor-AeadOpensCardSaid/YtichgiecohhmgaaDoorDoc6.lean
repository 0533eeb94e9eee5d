/- The document's zeros, lengths and block. The document's layer 6: the tag; what is asked; the key and the nonce that are used. The document's layer 6: Seal and Open. The document's layer 6: Open of anything. Program and document answer alike: Seal and Open of anything. -/
import Derived.Test.YtichgiecohhmgaaDoorDoc5
import Derived.Test.YtichgiecohhmgaaDoorAeadD
import Derived.Test.YtichgiecohhmgaaDoorRefXor
import Derived.Test.YtichgiecohhmgaaDoorQuiet
import Derived.Test.YtichgiecohhmgaaDoorAeadE
namespace Go.Proofs.YtichgiecohhmgaaDoor
open Go.RowKit Go.Lib Go.Joins Base
set_option linter.unusedVariables false
set_option linter.unusedSimpArgs false

theorem byteJ (x : Nat) : IntKind.u8.wrap ((x % 256 : Nat) : Int) = bt (UInt8.ofNat x) := byteN _ _ (by simp)
theorem sizeL_get' (n i : Nat) (h : i < 8) : (sizeL n)[i]? = some (UInt8.ofNat (n / 2 ^ (8 * i))) := by
  simp [sizeL, h]
theorem sizeL_take' (n i : Nat) (h : i < 8) : (sizeL n).take (i + 1) = (sizeL n).take i ++ [UInt8.ofNat (n / 2 ^ (8 * i))] := by
  rw [List.take_add_one, sizeL_get' n i h]; rfl
set_option maxRecDepth 100000 in
set_option maxHeartbeats 1000000 in
theorem reight_any (n : Nat) (hn : n < 9223372036854775808) (w : World) :
    Calls Tryd.prog 50 #[.int .i64 n] w fun e w' => e = .returned (.string ⟨(sizeL n).toArray⟩) ∧ Fr [] w w' := by
  have hi5 : (Tryd.prog.info? 5).map (fun i => (i.zero, i.size, i.bytes)) = some (some (.int .u8 0), 1, 1) := by kernel_rfl
  obtain ⟨iI, hiI, hz0, hz1, hz2⟩ := info_parts hi5
  have e0 : (n : Int) = ((n / 2 ^ (8 * 0) : Nat) : Int) := by simp
  go_enter Tryd.func50, Tryd.ntmps50
  go_wp2_with fail
  go_loopw [0, 3, 4] (fun v0 v3 v4 wr => ∃ i : Nat, i ≤ 8 ∧ v4 = .int .i64 i ∧ v0 = .int .i64 ((n / 2 ^ (8 * i) : Nat) : Int) ∧ wr.ownsRow w.heap.size 5 1 v3 i (byteCells ((sizeL n).take i)) ∧ Below w.heap.size w wr) (fun _ _ v _ => 8 - (RowKit.intOf v).toNat)
  case atStart => exact ⟨0, by omega, rfl, by simp, World.ownsRow_nil _ _ _ _, Below.refl _ _⟩
  case round =>
    obtain ⟨i, hi, rfl, rfl, h0, hF⟩ := hrel
    have hsz := hF.size
    by_cases hl : i < 8
    · have l1 : (i : Int) < 8 := by omega
      have w2 : IntKind.i64.wrap ((i : Int) + 1) = ((i + 1 : Nat) : Int) := by rw [IntWalk.i64_in _ (by omega)]; omega
      have ht := sizeL_take' n i hl
      have hnx : n / 2 ^ (8 * (i + 1)) = n / 2 ^ (8 * i) / 256 := by
        rw [show 8 * (i + 1) = 8 * i + 8 by omega, Nat.pow_add, ← Nat.div_div_eq_div_mul]
      have hx : n / 2 ^ (8 * i) < 9223372036854775808 := Nat.lt_of_le_of_lt (Nat.div_le_self _ _) hn
      generalize n / 2 ^ (8 * i) = X at ht hnx hx ⊢
      have d3 : ∀ t, binOp .quo t (.int .i64 (X : Int)) (.int .i64 256) = pure (.int .i64 ((X / 256 : Nat) : Int)) := fun t => quoJ X 256 (by omega) (by omega) t
      have e4 : ∀ t, binOp .rem t (.int .i64 (X : Int)) (.int .i64 256) = pure (.int .i64 ((X % 256 : Nat) : Int)) := fun t => remJ X 256 (by omega) t
      have b4 := byteJ X
      generalize ((X % 256 : Nat) : Int) = y4 at e4 b4
      obtain ⟨Z, hZ⟩ : ∃ Z, Z = X / 256 := ⟨_, rfl⟩
      rw [← hZ] at d3 hnx
      generalize hu : UInt8.ofNat X = u at b4 ht
      have HT := Lib.hid (And.intro ht hnx)
      have A2 := At.alloc_new wr 5 #[Value.int .u8 (bt u)]
      clear ht hx hnx hu hZ e0
      go_wp2_with (first
        | (at_builtin; refine wpList_append_own _ rfl _ _ _ rfl w.heap.size 5 iI (.int .u8 0) 1 1 Tryd.underlying35 hiI hz0 hz1 hz2 rfl (by decide) _ i _ rfl (World.ownsRow.alloc h0 _) ⟨wr.heap.size, 0, none⟩ 1 1 (byteCells [u]) rfl rfl (by intro j u' hj; rw [addr_add', Nat.zero_add]; exact (A2.cell j).trans hj) (byteCells_one _) (by simp [maxLen]; omega) (by omega) (by simp; omega) ?_; intro v2 w2 o2 gr2 _)
        | fail)
      refine ⟨⟨i + 1, by omega, by simp, by rw [HT.out.2], ?_, ?_⟩, by simp only [RowKit.intOf]; omega⟩
      · rw [HT.out.1]
        simpa [byteCells] using o2
      · refine (hF.alloc (by omega) _).grown gr2 (by simp; omega) ?_
        intro x hx
        exact (h0.lt x hx).1
    · obtain rfl : i = 8 := by omega
      have l1 : ¬ ((8 : Nat) : Int) < 8 := by omega
      rw [List.take_of_length_le (by rw [sizeL_len]; omega)] at h0
      have hcv := run_strOwn (P := Tryd.prog) Tryd.underlying35 Tryd.underlying5 Tryd.underlying9 h0
      go_wp2_with fail
      go_ret
      exact ⟨rfl, Fr.ofBelow hF⟩
theorem zerosB_next (n : Nat) : zerosB (n + 1) = zerosB n ++ [0] := by simp [zerosB, List.replicate_succ']
set_option maxRecDepth 100000 in
set_option maxHeartbeats 1000000 in
theorem rzeros_any (n : Nat) (hn : n < 4611686018427387904) (w : World) :
    Calls Tryd.prog 49 #[.int .i64 n] w fun e w' => e = .returned (.string ⟨(fillL n).toArray⟩) ∧ Fr [] w w' := by
  have hi5 : (Tryd.prog.info? 5).map (fun i => (i.zero, i.size, i.bytes)) = some (some (.int .u8 0), 1, 1) := by kernel_rfl
  obtain ⟨iI, hiI, hz0, hz1, hz2⟩ := info_parts hi5
  obtain ⟨z, hz⟩ : ∃ z, z = (16 - n % 16) % 16 := ⟨_, rfl⟩
  have hfl : fillL n = zerosB z := by rw [hz]; rfl
  rw [hfl]
  clear hfl
  have HZ := Lib.hid hz
  have hz16 : z < 16 := by omega
  clear hz
  have z8 : (Value.int .u8 0) = .int .u8 (bt 0) := rfl
  go_enter Tryd.func49, Tryd.ntmps49
  go_wp2_with fail
  go_loopw [0, 3] (fun v0 v3 wr => ∃ i : Nat, i ≤ z ∧ v0 = .int .i64 ((n + i : Nat) : Int) ∧ wr.ownsRow w.heap.size 5 1 v3 i (byteCells (zerosB i)) ∧ Below w.heap.size w wr) (fun v _ _ => n + 16 - (RowKit.intOf v).toNat)
  case atStart => exact ⟨0, by omega, by simp, World.ownsRow_nil _ _ _ _, Below.refl _ _⟩
  case round =>
    obtain ⟨i, hi, rfl, h0, hF⟩ := hrel
    have hsz := hF.size
    obtain ⟨m, hm⟩ : ∃ m, m = n + i := ⟨_, rfl⟩
    rw [← hm]
    have r1 : ∀ t, binOp .rem t (.int .i64 (m : Int)) (.int .i64 16) = pure (.int .i64 ((m % 16 : Nat) : Int)) := fun t => remJ m 16 (by omega) t
    obtain ⟨q, hq⟩ : ∃ q, q = m % 16 := ⟨_, rfl⟩
    rw [← hq] at r1
    by_cases hl : i < z
    · have hq0 : ¬ q = 0 := by have := HZ.out; omega
      have l1 : ¬ (q : Int) = 0 := by omega
      have w2 : IntKind.i64.wrap ((m : Int) + 1) = ((m + 1 : Nat) : Int) := by rw [IntWalk.i64_in _ (by omega)]; omega
      have A2 := At.alloc_new wr 5 #[Value.int .u8 (bt 0)]
      have HM := Lib.hid (And.intro hm hz16)
      clear hq hq0 hm
      go_wp2_with (first
        | (at_builtin; refine wpList_append_own _ rfl _ _ _ rfl w.heap.size 5 iI (.int .u8 0) 1 1 Tryd.underlying35 hiI hz0 hz1 hz2 rfl (by decide) _ i _ rfl (World.ownsRow.alloc h0 _) ⟨wr.heap.size, 0, none⟩ 1 1 (byteCells [0]) rfl rfl (by intro j u' hj; rw [addr_add', Nat.zero_add]; exact (A2.cell j).trans hj) (byteCells_one _) (by simp [maxLen]; omega) (by omega) (by simp; omega) ?_; intro v2 w2 o2 gr2 _)
        | fail)
      refine ⟨⟨i + 1, by omega, by rw [HM.out.1]; first | (congr 1; done) | (congr 1; omega), ?_, ?_⟩, by simp only [RowKit.intOf]; have := HM.out.1; omega⟩
      · rw [zerosB_next]
        simpa [byteCells] using o2
      · refine (hF.alloc (by omega) _).grown gr2 (by simp; omega) ?_
        intro x hx
        exact (h0.lt x hx).1
    · have hq0 : q = 0 := by have := HZ.out; omega
      obtain rfl : i = z := by omega
      have l1 : (q : Int) = 0 := by omega
      clear hq hq0 hm
      have hcv := run_strOwn (P := Tryd.prog) Tryd.underlying35 Tryd.underlying5 Tryd.underlying9 h0
      go_wp2_with fail
      go_ret
      exact ⟨rfl, Fr.ofBelow hF⟩
theorem refBlock_ok (k n : ByteArray) (hk : k.size = 32) (hn : n.size = 12) (c : UInt32) (w : World) (ht : Places w) :
    Calls Tryd.prog 48 #[.string k, .int .i64 (wd c), .string n] w fun e w' => e = .returned (.tuple #[.string ⟨(blk k.data.toList n.data.toList c).toArray⟩, .int .i64 0]) ∧ Fr [] w w' := by
  have hw := wd_lt c
  go_enter Tryd.func48, Tryd.ntmps48
  go_wp2_with (first
    | (go_at_call 46; refine (wrong_ok k n (wd c) 12 hk hn hw.1 hw.2 _).mono ?_; rintro e w' ⟨rfl, q1, rfl⟩)
    | (go_at_call 47; refine (refblock_any k n hk hn c _ (ht.keep (Fr.drewN [] w q1) (by simp))).mono ?_; rintro e w2 ⟨rfl, f2⟩)
    | fail)
  go_ret2
  exact ⟨rfl, (Fr.drewN _ _ _).trans f2⟩
end Go.Proofs.YtichgiecohhmgaaDoor
namespace Go.Proofs.YtichgiecohhmgaaDoor
open Go.RowKit Go.Lib Go.Joins Base
set_option linter.unusedVariables false
set_option linter.unusedSimpArgs false

set_option maxRecDepth 100000 in
set_option maxHeartbeats 1000000 in
theorem r6tag_any (k n a c : ByteArray) (hk : k.size = 32) (hn : n.size = 12) (ha : a.size ≤ 1152921504606846976) (hc : c.size ≤ 1152921504606846976) (w : World) (ht : Places w) :
    Calls Tryd.prog 30 #[.agg #[.string k, .string n], .string a, .string c] w fun e w' => e = .returned (.string ⟨(tagOf k.data.toList n.data.toList a.data.toList c.data.toList).toArray⟩) ∧ Fr [] w w' := by
  have cB := fun w h => refBlock_ok k n hk hn 0 w h
  rw [show wd 0 = 0 from rfl] at cB
  obtain ⟨B, hB⟩ : ∃ B : ByteArray, B = ⟨(blk k.data.toList n.data.toList 0).toArray⟩ := ⟨_, rfl⟩
  rw [← hB] at cB
  have hkl : k.data.toList.length = 32 := by rw [← hk]; simp
  have hnl : n.data.toList.length = 12 := by rw [← hn]; simp
  have hBd : B.data.toList = blk k.data.toList n.data.toList 0 := by rw [hB]
  have hBs : B.size = 64 := by
    have h1 : B.data.toList.length = B.size := by simp
    rw [hBd, blk_len _ _ _ hkl hnl] at h1
    exact h1.symm
  have hh : (B.extract 0 32).size = 32 := by rw [ByteArray.size_extract]; omega
  have hhd : (B.extract 0 32).data.toList = (blk k.data.toList n.data.toList 0).take 32 := by
    rw [ByteArray.data_extract, Array.toList_extract, List.extract_eq_take_drop, hBd, List.drop_zero, Nat.sub_zero]
  have cF1 := fun w => rzeros_any a.size (by omega) w
  have cF2 := fun w => rzeros_any c.size (by omega) w
  have cS1 := fun w => reight_any a.size (by omega) w
  have cS2 := fun w => reight_any c.size (by omega) w
  have la : a.data.toList.length = a.size := by simp
  have lc : c.data.toList.length = c.size := by simp
  obtain ⟨f1, hf1⟩ : ∃ x : ByteArray, x = ⟨(fillL a.size).toArray⟩ := ⟨_, rfl⟩
  obtain ⟨f2, hf2⟩ : ∃ x : ByteArray, x = ⟨(fillL c.size).toArray⟩ := ⟨_, rfl⟩
  obtain ⟨s1, hs1⟩ : ∃ x : ByteArray, x = ⟨(sizeL a.size).toArray⟩ := ⟨_, rfl⟩
  obtain ⟨s2, hs2⟩ : ∃ x : ByteArray, x = ⟨(sizeL c.size).toArray⟩ := ⟨_, rfl⟩
  rw [← hf1] at cF1
  rw [← hf2] at cF2
  rw [← hs1] at cS1
  rw [← hs2] at cS2
  have z1 : f1.size ≤ 16 := by rw [hf1, size_of, fillL_len]; omega
  have z2 : f2.size ≤ 16 := by rw [hf2, size_of, fillL_len]; omega
  have z3 : s1.size = 8 := by rw [hs1, size_of, sizeL_len]
  have z4 : s2.size = 8 := by rw [hs2, size_of, sizeL_len]
  have k1 : ¬ 9223372036854775807 < a.size + f1.size := by omega
  have k2 : ¬ 9223372036854775807 < (a ++ f1).size + c.size := by rw [ByteArray.size_append]; omega
  have k3 : ¬ 9223372036854775807 < (a ++ f1 ++ c).size + f2.size := by rw [ByteArray.size_append, ByteArray.size_append]; omega
  have k4 : ¬ 9223372036854775807 < (a ++ f1 ++ c ++ f2).size + s1.size := by rw [ByteArray.size_append, ByteArray.size_append, ByteArray.size_append]; omega
  have k5 : ¬ 9223372036854775807 < (a ++ f1 ++ c ++ f2 ++ s1).size + s2.size := by rw [ByteArray.size_append, ByteArray.size_append, ByteArray.size_append, ByteArray.size_append]; omega
  have hT : (a ++ f1 ++ c ++ f2 ++ s1 ++ s2).data.toList = summed a.data.toList c.data.toList := by
    simp [summed, ByteArray.data_append, hf1, hf2, hs1, hs2]
  have hTs : (a ++ f1 ++ c ++ f2 ++ s1 ++ s2).size ≤ 4611686018427387904 := by
    rw [ByteArray.size_append, ByteArray.size_append, ByteArray.size_append, ByteArray.size_append, ByteArray.size_append]; omega
  have cT := fun w => rtag_any (B.extract 0 32) (a ++ f1 ++ c ++ f2 ++ s1 ++ s2) hh hTs w
  rw [docTag_is _ _ (by rw [hhd]; simp [blk_len _ _ _ hkl hnl]), hT, hhd, show tagL ((blk k.data.toList n.data.toList 0).take 32) (summed a.data.toList c.data.toList) = tagOf k.data.toList n.data.toList a.data.toList c.data.toList from rfl] at cT
  generalize (⟨(tagOf k.data.toList n.data.toList a.data.toList c.data.toList).toArray⟩ : ByteArray) = Y at cT ⊢
  generalize hy1 : a ++ f1 = y1 at k2 k3 k4 k5 cT
  generalize hy2 : y1 ++ c = y2 at k3 k4 k5 cT
  generalize hy3 : y2 ++ f2 = y3 at k4 k5 cT
  generalize hy4 : y3 ++ s1 = y4 at k5 cT
  generalize hy5 : y4 ++ s2 = y5 at cT
  have k32 : (32 : Int) ≤ B.size := by omega
  have A0 := At.alloc_new w 48 #[.string k, .string n]
  have F0 := Fr.alloc [] w (.cells #[.string k, .string n] 48)
  have q0 := A0.cell 0
  have q1 := A0.cell 1
  clear hkl hnl hBd hBs hh hhd hf1 hf2 hs1 hs2 hT hTs z1 z2 z3 z4 la lc hB
  go_enter Tryd.func30, Tryd.ntmps30
  go_wp2_with (first
    | (go_at_call 48; refine (cB _ (ht.keep F0 (by simp))).mono ?_; clear cB; rintro e w1 ⟨rfl, f1⟩; have F1 := F0.trans f1)
    | (go_at_call 49; refine (cF1 _).mono ?_; clear cF1; rintro e w2 ⟨rfl, f2⟩; have F2 := F1.trans f2)
    | (go_at_call 49; refine (cF2 _).mono ?_; clear cF2; rintro e w3 ⟨rfl, f3⟩; have F3 := F2.trans f3)
    | (go_at_call 50; refine (cS1 _).mono ?_; clear cS1; rintro e w4 ⟨rfl, f4⟩; have F4 := F3.trans f4)
    | (go_at_call 50; refine (cS2 _).mono ?_; clear cS2; rintro e w5 ⟨rfl, f5⟩; have F5 := F4.trans f5)
    | (go_at_call 51; refine (cT _).mono ?_; clear cT; rintro e w6 ⟨rfl, f6⟩)
    | fail)
  go_ret
  exact ⟨rfl, F5.trans f6⟩

set_option maxRecDepth 100000 in
theorem asked_key (k n : ByteArray) (hk : k.size ≠ 32) (w : World) :
    Calls Tryd.prog 27 #[.string k, .string n] w fun e w' => e = .returned (.int .i64 40) ∧ Fr [] w w' := by
  have l1 : ¬ (k.size : Int) = 32 := by omega
  go_enter Tryd.func27, Tryd.ntmps27
  go_wp2_with fail
  go_ret
  exact ⟨rfl, Fr.refl _ _⟩
set_option maxRecDepth 100000 in
theorem asked_nonce (k n : ByteArray) (hk : k.size = 32) (h1 : n.size ≠ 12) (h2 : n.size ≠ 24) (w : World) :
    Calls Tryd.prog 27 #[.string k, .string n] w fun e w' => e = .returned (.int .i64 41) ∧ Fr [] w w' := by
  have l1 : (k.size : Int) = 32 := by omega
  have l2 : ¬ (n.size : Int) = 12 := by omega
  have l3 : ¬ (n.size : Int) = 24 := by omega
  have l4 : ((n.size : Int) != 12) = true := by simp [bne]; omega
  have l5 : ((n.size : Int) != 24) = true := by simp [bne]; omega
  go_enter Tryd.func27, Tryd.ntmps27
  go_wp2_with fail
  go_ret
  exact ⟨rfl, Fr.refl _ _⟩
set_option maxRecDepth 100000 in
theorem asked_ok (k n : ByteArray) (hk : k.size = 32) (hn : n.size = 12 ∨ n.size = 24) (w : World) :
    Calls Tryd.prog 27 #[.string k, .string n] w fun e w' => e = .returned (.int .i64 0) ∧ Fr [] w w' := by
  have l1 : (k.size : Int) = 32 := by omega
  rcases hn with h | h
  · have l2 : (n.size : Int) = 12 := by omega
    go_enter Tryd.func27, Tryd.ntmps27
    go_wp2_with fail
    go_ret
    exact ⟨rfl, Fr.refl _ _⟩
  · have l2 : ¬ (n.size : Int) = 12 := by omega
    have l3 : (n.size : Int) = 24 := by omega
    go_enter Tryd.func27, Tryd.ntmps27
    go_wp2_with fail
    go_ret
    exact ⟨rfl, Fr.refl _ _⟩
set_option maxRecDepth 100000 in
theorem short_short (k n : ByteArray) (hn : n.size = 12) (w : World) :
    Calls Tryd.prog 28 #[.string k, .string n] w fun e w' => e = .returned (.agg #[.string k, .string n]) ∧ Fr [] w w' := by
  have l1 : (n.size : Int) = 12 := by omega
  have A0 := At.alloc_new w 48 #[.string ⟨#[]⟩, .string ⟨#[]⟩]
  go_enter Tryd.func28, Tryd.ntmps28
  go_wp2_with fail
  refine ⟨rfl, _, ?_, rfl, Fr.alloc _ _ _⟩
  exact results_cell_row (p := 4) (ty := 48) (by rfl) _ _ w.heap.size 48 _ (0, 0) _ rfl (At.alloc_new w 48 #[.string k, .string n]).out Tryd.underlying48 rfl (by kernel_rfl)
set_option maxRecDepth 100000 in
set_option maxHeartbeats 1000000 in
theorem short_long (k n : ByteArray) (hk : k.size = 32) (hn : n.size = 24) (w : World) (ht : Places w) :
    Calls Tryd.prog 28 #[.string k, .string n] w fun e w' => e = .returned (.agg #[.string (sKey k n), .string (sNonce n)]) ∧ Fr [] w w' := by
  have l2 : ¬ (n.size : Int) = 12 := by omega
  have l4 : (16 : Int) ≤ n.size := by omega
  have l5 : (n.size : Int) = 24 := by omega
  have cH := fun w h => refhash_ok k (n.extract 0 16) hk (by rw [ByteArray.size_extract]; omega) w h
  have hK : (⟨((hch k.data.toList (n.extract 0 16).data.toList).flatMap bytes4).toArray⟩ : ByteArray) = sKey k n := by rw [sKey]
  rw [hK] at cH
  have hN : (⟨#[0, 0, 0, 0]⟩ : ByteArray) ++ n.extract 16 24 = sNonce n := by rw [sNonce, hn]; rfl
  generalize sKey k n = K at cH ⊢
  generalize sNonce n = N at hN ⊢
  have k1 : ¬ 9223372036854775807 < (⟨#[0, 0, 0, 0]⟩ : ByteArray).size + (n.extract 16 24).size := by rw [ByteArray.size_extract, show (⟨#[0, 0, 0, 0]⟩ : ByteArray).size = 4 from rfl]; omega
  have A0 := At.alloc_new w 48 #[.string ⟨#[]⟩, .string ⟨#[]⟩]
  have F0 := Fr.alloc [] w (.cells #[.string ⟨#[]⟩, .string ⟨#[]⟩] 48)
  have so := ses_one K N
  clear hK
  go_enter Tryd.func28, Tryd.ntmps28
  go_wp2_with (first
    | (go_at_call 45; refine (cH _ (ht.keep F0 (by simp))).mono ?_; clear cH; rintro e w1 ⟨rfl, f1⟩; have A1 := f1.keep A0 (by simp))
    | (refine wpList_store_row rfl _ (.tmp 4) _ rfl _ _ rfl rfl _ _ A1.out (by kernel_rfl) rfl so ?_; simp only [Act.put])
    | fail)
  refine ⟨rfl, _, ?_, rfl, (F0.trans f1).new (S := [w.heap.size]) (Fr.setRow [w.heap.size] w1 w.heap.size #[.string K, .string N] (.inl (by simp))) (by simp)⟩
  exact results_cell_row (p := 4) (ty := 48) (by rfl) _ _ w.heap.size 48 _ (0, 0) _ rfl (A1.setRow #[.string K, .string N]).out Tryd.underlying48 rfl (by kernel_rfl)
end Go.Proofs.YtichgiecohhmgaaDoor
namespace Go.Proofs.YtichgiecohhmgaaDoor
open Go.RowKit Go.Lib Go.Joins Base
set_option linter.unusedVariables false
set_option linter.unusedSimpArgs false

/-- What the document asks of a key and a nonce, and what it makes of them. -/
def Asks (k n : ByteArray) (c : Int) : Prop := ∀ w, Calls Tryd.prog 27 #[.string k, .string n] w fun e w' => e = .returned (.int .i64 c) ∧ Fr [] w w'
def Shorts (k n K N : ByteArray) : Prop := ∀ w, Places w → Calls Tryd.prog 28 #[.string k, .string n] w fun e w' => e = .returned (.agg #[.string K, .string N]) ∧ Fr [] w w'
theorem rxor1_any (K N d : ByteArray) (hK : K.size = 32) (hN : N.size = 12) (hd : d.size ≤ 1048576) (w : World) (ht : Places w) :
    Calls Tryd.prog 29 #[.string K, .int .i64 1, .string N, .string d] w fun e w' => e = .returned (.tuple #[.string ⟨(cipherOf K.data.toList N.data.toList d.data.toList).toArray⟩, .int .i64 0]) ∧ Fr [] w w' := by
  have := refxor_ok K N d hK hN (by omega) 1 (by show (d.size + 63) / 64 + 1 ≤ 4294967296; omega) w ht
  rw [show wd 1 = 1 from rfl] at this
  exact this
set_option maxRecDepth 100000 in
theorem rseal_err (k n a p : ByteArray) (c : Int) (hc : ¬ c = 0) (hA : Asks k n c) (w : World) :
    Calls Tryd.prog 11 #[.string k, .string n, .string a, .string p] w fun e w' => e = .returned (.tuple #[.string ⟨#[]⟩, .int .i64 c]) ∧ Fr [] w w' := by
  have c1 := hA w
  go_enter Tryd.func11, Tryd.ntmps11
  go_wp2_with (first
    | (go_at_call 27; refine c1.mono ?_; clear c1; rintro e w1 ⟨rfl, f1⟩)
    | fail)
  go_ret2
  exact ⟨rfl, f1⟩
set_option maxRecDepth 100000 in
theorem ropen_err (k n a p : ByteArray) (c : Int) (hc : ¬ c = 0) (hA : Asks k n c) (w : World) :
    Calls Tryd.prog 20 #[.string k, .string n, .string a, .string p] w fun e w' => e = .returned (.tuple #[.string ⟨#[]⟩, .int .i64 c]) ∧ Fr [] w w' := by
  have c1 := hA w
  go_enter Tryd.func20, Tryd.ntmps20
  go_wp2_with (first
    | (go_at_call 27; refine c1.mono ?_; clear c1; rintro e w1 ⟨rfl, f1⟩)
    | fail)
  go_ret2
  exact ⟨rfl, f1⟩
set_option maxRecDepth 100000 in
theorem rseal_big (k n a p : ByteArray) (hA : Asks k n 0) (h : 1048576 < a.size ∨ 1048576 < p.size) (w : World) :
    Calls Tryd.prog 11 #[.string k, .string n, .string a, .string p] w fun e w' => e = .returned (.tuple #[.string ⟨#[]⟩, .int .i64 3]) ∧ Fr [] w w' := by
  have c1 := hA w
  by_cases h1 : 1048576 < a.size
  · have l1 : (1048576 : Int) < a.size := by omega
    clear h h1
    go_enter Tryd.func11, Tryd.ntmps11
    go_wp2_with (first
      | (go_at_call 27; refine c1.mono ?_; clear c1; rintro e w1 ⟨rfl, f1⟩)
      | fail)
    go_ret2
    exact ⟨rfl, f1⟩
  · have l1 : ¬ (1048576 : Int) < a.size := by omega
    have l2 : (1048576 : Int) < p.size := by omega
    clear h h1
    go_enter Tryd.func11, Tryd.ntmps11
    go_wp2_with (first
      | (go_at_call 27; refine c1.mono ?_; clear c1; rintro e w1 ⟨rfl, f1⟩)
      | fail)
    go_ret2
    exact ⟨rfl, f1⟩
set_option maxRecDepth 100000 in
theorem ropen_big (k n a p : ByteArray) (hA : Asks k n 0) (h : 1048576 < a.size ∨ 1048592 < p.size) (w : World) :
    Calls Tryd.prog 20 #[.string k, .string n, .string a, .string p] w fun e w' => e = .returned (.tuple #[.string ⟨#[]⟩, .int .i64 3]) ∧ Fr [] w w' := by
  have c1 := hA w
  by_cases h1 : 1048576 < a.size
  · have l1 : (1048576 : Int) < a.size := by omega
    clear h h1
    go_enter Tryd.func20, Tryd.ntmps20
    go_wp2_with (first
      | (go_at_call 27; refine c1.mono ?_; clear c1; rintro e w1 ⟨rfl, f1⟩)
      | fail)
    go_ret2
    exact ⟨rfl, f1⟩
  · have l1 : ¬ (1048576 : Int) < a.size := by omega
    have l2 : (1048592 : Int) < p.size := by omega
    clear h h1
    go_enter Tryd.func20, Tryd.ntmps20
    go_wp2_with (first
      | (go_at_call 27; refine c1.mono ?_; clear c1; rintro e w1 ⟨rfl, f1⟩)
      | fail)
    go_ret2
    exact ⟨rfl, f1⟩
set_option maxRecDepth 100000 in
theorem ropen_short (k n a p : ByteArray) (hA : Asks k n 0) (ha : a.size ≤ 1048576) (h : p.size < 16) (w : World) :
    Calls Tryd.prog 20 #[.string k, .string n, .string a, .string p] w fun e w' => e = .returned (.tuple #[.string ⟨#[]⟩, .int .i64 60]) ∧ Fr [] w w' := by
  have c1 := hA w
  have l1 : ¬ (1048576 : Int) < a.size := by omega
  have l2 : ¬ (1048592 : Int) < p.size := by omega
  have l3 : (p.size : Int) < 16 := by omega
  go_enter Tryd.func20, Tryd.ntmps20
  go_wp2_with (first
    | (go_at_call 27; refine c1.mono ?_; clear c1; rintro e w1 ⟨rfl, f1⟩)
    | fail)
  go_ret2
  exact ⟨rfl, f1⟩
set_option maxRecDepth 100000 in
set_option maxHeartbeats 2000000 in
theorem rseal_any (k n a p K N : ByteArray) (hA : Asks k n 0) (hB : Shorts k n K N) (hK : K.size = 32) (hN : N.size = 12) (ha : a.size ≤ 1048576) (hp : p.size ≤ 1048576) (w : World) (ht : Places w) :
    Calls Tryd.prog 11 #[.string k, .string n, .string a, .string p] w fun e w' => e = .returned (.tuple #[.string ⟨(sealOf K.data.toList N.data.toList a.data.toList p.data.toList).toArray⟩, .int .i64 0]) ∧ Fr [] w w' := by
  have c0 := hA w
  have c1 := fun w h => hB w h
  have c2 := fun w h => rxor1_any K N p hK hN (by omega) w h
  obtain ⟨C, hC⟩ : ∃ C : ByteArray, C = ⟨(cipherOf K.data.toList N.data.toList p.data.toList).toArray⟩ := ⟨_, rfl⟩
  rw [← hC] at c2
  have hCs : C.size = p.size := by rw [hC, size_of, cipherOf_len]; simp
  have hCd : C.data.toList = cipherOf K.data.toList N.data.toList p.data.toList := by rw [hC]
  have c3 := fun w h => r6tag_any K N a C hK hN (by omega) (by omega) w h
  obtain ⟨T, hT⟩ : ∃ T : ByteArray, T = ⟨(tagOf K.data.toList N.data.toList a.data.toList C.data.toList).toArray⟩ := ⟨_, rfl⟩
  rw [← hT] at c3
  have hTs : T.size = 16 := by rw [hT, size_of, tagOf_len]
  have hfin : C ++ T = ⟨(sealOf K.data.toList N.data.toList a.data.toList p.data.toList).toArray⟩ := by
    rw [hT, hCd, hC, app_of, sealOf]
  have k1 : ¬ 9223372036854775807 < C.size + T.size := by omega
  have l1 : ¬ (1048576 : Int) < a.size := by omega
  have l2 : ¬ (1048576 : Int) < p.size := by omega
  have A0 := fun w1 => At.alloc_new w1 48 #[.string K, .string N]
  have q0 := fun w1 => (A0 w1).cell 0
  have q1 := fun w1 => (A0 w1).cell 1
  rw [← hfin]
  clear hfin hC hT hCd hCs hTs hA hB
  go_enter Tryd.func11, Tryd.ntmps11
  go_wp2_with (first
    | (go_at_call 27; refine c0.mono ?_; clear c0; rintro e w0 ⟨rfl, f0⟩)
    | (go_at_call 28; refine (c1 _ (ht.keep f0 (by simp))).mono ?_; clear c1; rintro e w1 ⟨rfl, f1⟩; have F1 := (f0.trans f1).trans (Fr.alloc [] w1 (.cells #[.string K, .string N] 48)))
    | (go_at_call 29; refine (c2 _ (ht.keep F1 (by simp))).mono ?_; clear c2; rintro e w2 ⟨rfl, f2⟩; have F2 := F1.trans f2; have A2 := f2.keep (A0 w1) (by simp); have d0 := A2.cell 0; have d1 := A2.cell 1)
    | (go_at_call 30; refine (c3 _ (ht.keep F2 (by simp))).mono ?_; clear c3; rintro e w3 ⟨rfl, f3⟩)
    | fail)
  go_ret2
  exact ⟨rfl, F2.trans f3⟩
end Go.Proofs.YtichgiecohhmgaaDoor
namespace Go.Proofs.YtichgiecohhmgaaDoor
open Go.RowKit Go.Lib Go.Joins Base
set_option linter.unusedVariables false
set_option linter.unusedSimpArgs false

theorem str_neq {a b : ByteArray} (h : a ≠ b) : (a.toList == b.toList) = false := by
  rw [ByteArray.toList_eq, ByteArray.toList_eq, beq_eq_false_iff_ne]
  exact fun e => h (ByteArray.ext (Array.toList_inj.1 e))
theorem str_eq {a b : ByteArray} (h : a = b) : (a.toList == b.toList) = true := by rw [h]; exact beq_self_eq_true _
set_option maxRecDepth 100000 in
set_option maxHeartbeats 2000000 in
theorem ropen_any (k n a x K N : ByteArray) (hA : Asks k n 0) (hB : Shorts k n K N) (hK : K.size = 32) (hN : N.size = 12) (ha : a.size ≤ 1048576) (h1 : 16 ≤ x.size) (h2 : x.size ≤ 1048592) (w : World) (ht : Places w) :
    Calls Tryd.prog 20 #[.string k, .string n, .string a, .string x] w (openE K N a x w) := by
  have c0 := hA w
  have c1 := fun w h => hB w h
  obtain ⟨m, hm⟩ : ∃ m, m = x.size - 16 := ⟨_, rfl⟩
  obtain ⟨C, hC⟩ : ∃ C, C = x.extract 0 m := ⟨_, rfl⟩
  obtain ⟨U, hU⟩ : ∃ U, U = x.extract m x.size := ⟨_, rfl⟩
  have hCs : C.size = m := by rw [hC, ByteArray.size_extract]; omega
  have c2 := fun w h => rxor1_any K N C hK hN (by omega) w h
  have c3 := fun w h => r6tag_any K N a C hK hN (by omega) (by omega) w h
  unfold openE
  rw [← hm, ← hC, ← hU]
  obtain ⟨P, hP⟩ : ∃ P : ByteArray, P = ⟨(cipherOf K.data.toList N.data.toList C.data.toList).toArray⟩ := ⟨_, rfl⟩
  obtain ⟨T, hT⟩ : ∃ T : ByteArray, T = ⟨(tagOf K.data.toList N.data.toList a.data.toList C.data.toList).toArray⟩ := ⟨_, rfl⟩
  rw [← hP] at c2 ⊢
  rw [← hT] at c3 ⊢
  have w1 : IntKind.i64.wrap ((x.size : Int) - 16) = (m : Int) := by rw [show (x.size : Int) - 16 = (m : Int) by omega]; exact IntWalk.i64_in _ (by omega)
  have l1 : ¬ (1048576 : Int) < a.size := by omega
  have l2 : ¬ (1048592 : Int) < x.size := by omega
  have l3 : ¬ (x.size : Int) < 16 := by omega
  have l4 : (m : Int) ≤ x.size := by omega
  have eC := hC.symm
  have eU := hU.symm
  have A0 := fun w1 => At.alloc_new w1 48 #[.string K, .string N]
  have w1' : wrap64 ((x.size : Int) - 16) = (m : Int) := by rw [show (x.size : Int) - 16 = (m : Int) by omega]; exact IntWalk.wrap64_in _ (by omega)
  clear hm hC hU hP hT hCs h1 h2 ha hA hB
  go_enter Tryd.func20, Tryd.ntmps20
  go_upto_region 10 with (first
    | (go_at_call 27; refine c0.mono ?_; clear c0; rintro e w0 ⟨rfl, f0⟩)
    | (go_at_call 28; refine (c1 _ (ht.keep f0 (by simp))).mono ?_; clear c1; rintro e w1 ⟨rfl, f1⟩; have F1 := (f0.trans f1).trans (Fr.alloc [] w1 (.cells #[.string K, .string N] 48)))
    | fail)
  have A1 := A0 w1
  generalize w1.alloc (.cells #[.string K, .string N] 48) = W at A1 F1 ⊢
  obtain ⟨t, ht0⟩ : ∃ t, t = w1.heap.size := ⟨_, rfl⟩
  rw [← ht0] at A1 ⊢
  clear ht0 f1
  obtain ⟨G, hG⟩ : ∃ G : World → Prop, G = fun w' => Fr [] W w' := ⟨_, rfl⟩
  have gW : ∀ w', G w' ↔ Fr [] W w' := fun w' => by rw [hG]
  clear hG
  have q0 : ∀ y : Gw G, y.w.cell? ⟨t, 0, none⟩ = some (.string K) := fun y => (((gW _).1 y.ok).keep A1 (by simp)).cell 0
  have q1 : ∀ y : Gw G, y.w.cell? ⟨t, 1, none⟩ = some (.string N) := fun y => (((gW _).1 y.ok).keep A1 (by simp)).cell 1
  have c3' := fun y : Gw G => c3 y.w (ht.keep (F1.trans ((gW _).1 y.ok)) (by simp))
  have g1 : ∀ (y : Gw G) w', Fr [] y.w w' → G w' := fun y w' f => (gW _).2 (((gW _).1 y.ok).trans f)
  have gz : G W.drew := (gW _).2 (Fr.drew _ _)
  have ne : Nonempty (Gw G) := ⟨⟨_, gz⟩⟩
  clear c3 A0
  refine wp_region_gw G (by kernel_rfl) (by kernel_rfl) gz ?_
  repeat (go_big_quiet_step (first
    | (go_at_call 30; exact gw_call (c3' _) (g1 _))))
  refine wpQuiet_nil ?_
  rintro _ ⟨y, rfl⟩
  have F2 := F1.trans ((gW _).1 y.ok)
  have A2 := ((gW _).1 y.ok).keep A1 (by simp)
  generalize y.w = W2 at F2 A2 ⊢
  clear q0 q1 c3' g1 gz ne gW A1 F1
  by_cases he : T = U
  · have he' : U = T := he.symm
    have lb := str_eq he
    have HE := Lib.hid he'
    clear he he'
    rw [lb]
    go_upto_region 12 with fail
    obtain ⟨G2, hG2⟩ : ∃ G : World → Prop, G = fun w' => Fr [] W2 w' := ⟨_, rfl⟩
    have gW2 : ∀ w', G2 w' ↔ Fr [] W2 w' := fun w' => by rw [hG2]
    clear hG2
    have p0 : ∀ y : Gw G2, y.w.cell? ⟨t, 0, none⟩ = some (.string K) := fun y => (((gW2 _).1 y.ok).keep A2 (by simp)).cell 0
    have p1 : ∀ y : Gw G2, y.w.cell? ⟨t, 1, none⟩ = some (.string N) := fun y => (((gW2 _).1 y.ok).keep A2 (by simp)).cell 1
    have c2' := fun y : Gw G2 => c2 y.w (ht.keep (F2.trans ((gW2 _).1 y.ok)) (by simp))
    have g2 : ∀ (y : Gw G2) w', Fr [] y.w w' → G2 w' := fun y w' f => (gW2 _).2 (((gW2 _).1 y.ok).trans f)
    have gz2 : G2 W2.drew := (gW2 _).2 (Fr.drew _ _)
    have ne2 : Nonempty (Gw G2) := ⟨⟨_, gz2⟩⟩
    clear c2
    refine wp_region_gw G2 (by kernel_rfl) (by kernel_rfl) gz2 ?_
    repeat (go_big_quiet_step (first
      | (go_at_call 29; exact gw_call (c2' _) (g2 _))))
    refine wpQuiet_nil ?_
    rintro _ ⟨y, rfl⟩
    have fy := (gW2 _).1 y.ok
    go_wp2_with fail
    go_ret2
    exact .inl ⟨HE.out, rfl, F2.trans fy⟩
  · have he' : U ≠ T := fun h => he h.symm
    have lb := str_neq he
    have HE := Lib.hid he'
    clear he he'
    rw [lb]
    go_wp2_with fail
    go_ret2
    exact .inr ⟨HE.out, rfl, F2⟩
end Go.Proofs.YtichgiecohhmgaaDoor
namespace Go.Proofs.YtichgiecohhmgaaDoor
open Go.RowKit Go.Lib Go.Joins Base
set_option linter.unusedVariables false
set_option linter.unusedSimpArgs false

theorem pair_any (k n : ByteArray) (hk : k.size = 32) (hn : n.size = 12 ∨ n.size = 24) : ∃ K N, Begins k n K N ∧ Shorts k n K N ∧ Asks k n 0 ∧ K.size = 32 ∧ N.size = 12 := by
  have hA : Asks k n 0 := fun w => asked_ok k n hk hn w
  rcases hn with hn | hn
  · exact ⟨k, n, fun w _ => begin_short k n hk hn w, fun w _ => short_short k n hn w, hA, hk, hn⟩
  · exact ⟨sKey k n, sNonce n, fun w ht => begin_long k n hk hn w ht, fun w ht => short_long k n hk hn w ht, hA, sKey_size k n hk hn, sNonce_size n hn⟩
def BothSeal (k n a p : ByteArray) (s : ByteArray) (c : Int) : Prop :=
  (∀ w, Rounds w → Calls Tryd.prog 10 #[.string k, .string n, .string a, .string p] w fun e w' => e = .returned (.tuple #[.string s, .int .i64 c]) ∧ Fr [] w w') ∧
  (∀ w, Places w → Calls Tryd.prog 11 #[.string k, .string n, .string a, .string p] w fun e w' => e = .returned (.tuple #[.string s, .int .i64 c]) ∧ Fr [] w w')
def BothOpen (k n a x : ByteArray) (s : ByteArray) (c : Int) : Prop :=
  (∀ w, Rounds w → Calls Tryd.prog 19 #[.string k, .string n, .string a, .string x] w fun e w' => e = .returned (.tuple #[.string s, .int .i64 c]) ∧ Fr [] w w') ∧
  (∀ w, Places w → Calls Tryd.prog 20 #[.string k, .string n, .string a, .string x] w fun e w' => e = .returned (.tuple #[.string s, .int .i64 c]) ∧ Fr [] w w')
/-- A key or a nonce that is refused. -/
theorem refused (k n : ByteArray) (h : ¬ (k.size = 32 ∧ (n.size = 12 ∨ n.size = 24))) : ∃ c : Int, ¬ c = 0 ∧ BeginErr k n c ∧ Asks k n c := by
  by_cases hk : k.size = 32
  · have h12 : n.size ≠ 12 := fun h' => h ⟨hk, .inl h'⟩
    have h24 : n.size ≠ 24 := fun h' => h ⟨hk, .inr h'⟩
    exact ⟨41, by decide, fun w _ => begin_nonce k n hk h12 h24 w, fun w => asked_nonce k n hk h12 h24 w⟩
  · exact ⟨40, by decide, fun w _ => begin_key k n hk w, fun w => asked_key k n hk w⟩
theorem seal_both (k n a p : ByteArray) : ∃ s c, BothSeal k n a p s c ∧ (c = 0 → s.size = p.size + 16 ∧ p.size ≤ 1048576) := by
  by_cases hkn : k.size = 32 ∧ (n.size = 12 ∨ n.size = 24)
  · obtain ⟨K, N, hB, hS, hA, hK, hN⟩ := pair_any k n hkn.1 hkn.2
    by_cases hb : 1048576 < a.size ∨ 1048576 < p.size
    · exact ⟨_, 3, ⟨fun w ht => seal_big k n a p K N hB hb w ht, fun w ht => rseal_big k n a p hA hb w⟩, fun h => absurd h (by decide)⟩
    · refine ⟨_, 0, ⟨fun w ht => seal_any k n a p K N hB hK hN (by omega) (by omega) w ht, fun w ht => rseal_any k n a p K N hA hS hK hN (by omega) (by omega) w ht⟩, fun _ => ⟨?_, by omega⟩⟩
      rw [size_of, sealOf_len]; simp
  · obtain ⟨c, hc, hB, hA⟩ := refused k n hkn
    exact ⟨_, c, ⟨fun w ht => seal_err k n a p c hc hB w ht, fun w _ => rseal_err k n a p c hc hA w⟩, fun h => absurd h hc⟩
theorem open_both (k n a x : ByteArray) (hx : x.size ≤ 4611686018427387904) : ∃ s c, BothOpen k n a x s c := by
  by_cases hkn : k.size = 32 ∧ (n.size = 12 ∨ n.size = 24)
  · obtain ⟨K, N, hB, hS, hA, hK, hN⟩ := pair_any k n hkn.1 hkn.2
    by_cases hb : 1048576 < a.size ∨ 1048592 < x.size
    · exact ⟨_, 3, fun w ht => open_big k n a x K N hB hx hb w ht, fun w ht => ropen_big k n a x hA hb w⟩
    · by_cases h16 : x.size < 16
      · exact ⟨_, 60, fun w ht => open_short k n a x K N hB (by omega) h16 w ht, fun w ht => ropen_short k n a x hA (by omega) h16 w⟩
      · have h1 := fun w ht => open_any k n a x K N hB hK hN (by omega) (by omega) (by omega) w ht
        have h2 := fun w ht => ropen_any k n a x K N hA hS hK hN (by omega) (by omega) (by omega) w ht
        by_cases he : x.extract (x.size - 16) x.size = ⟨(tagOf K.data.toList N.data.toList a.data.toList (x.extract 0 (x.size - 16)).data.toList).toArray⟩
        · refine ⟨⟨(cipherOf K.data.toList N.data.toList (x.extract 0 (x.size - 16)).data.toList).toArray⟩, 0, fun w ht => (h1 w ht).mono ?_, fun w ht => (h2 w ht).mono ?_⟩
          · rintro e w' (⟨_, h⟩ | ⟨hn, _⟩)
            · exact h
            · exact absurd he hn
          · rintro e w' (⟨_, h⟩ | ⟨hn, _⟩)
            · exact h
            · exact absurd he hn
        · refine ⟨⟨#[]⟩, 61, fun w ht => (h1 w ht).mono ?_, fun w ht => (h2 w ht).mono ?_⟩
          · rintro e w' (⟨hn, _⟩ | ⟨_, h⟩)
            · exact absurd hn he
            · exact h
          · rintro e w' (⟨hn, _⟩ | ⟨_, h⟩)
            · exact absurd hn he
            · exact h
  · obtain ⟨c, hc, hB, hA⟩ := refused k n hkn
    exact ⟨_, c, fun w ht => open_err k n a x c hc hB w ht, fun w _ => ropen_err k n a x c hc hA w⟩
end Go.Proofs.YtichgiecohhmgaaDoor
