/- The law KdfKeys walked, and the law's own small functions. -/
import Derived.Test.YtbpaknnnkmjgjaaDoorKdfHmac
namespace Go.Proofs.YtbpaknnnkmjgjaaDoor
open Go.RowKit Go.Lib Go.Joins Base
set_option linter.unusedVariables false
set_option linter.unusedSimpArgs false

theorem tmod_range (n H : Int) (h : 0 < H) : -H < n.tmod H ∧ n.tmod H < H := by
  refine ⟨?_, Int.tmod_lt_of_pos _ h⟩
  have := Int.tmod_lt_of_pos (-n) h
  rw [Int.neg_tmod] at this; omega
set_option maxRecDepth 100000 in
theorem clipped_any (n low high : Int) (hn : -9223372036854775808 ≤ n ∧ n ≤ 9223372036854775807) (h0 : 0 ≤ low) (h1 : low ≤ high) (h2 : high ≤ 1048576) (w : World) :
    Calls Tryd.prog 17 #[.int .i64 n, .int .i64 low, .int .i64 high] w fun e w' => ∃ r, low ≤ r ∧ r ≤ high ∧ e = .returned (.int .i64 r) ∧ Fr [] w w' := by
  obtain ⟨hr1, hr2⟩ := tmod_range n (high - low + 1) (by omega)
  have w1 : IntKind.i64.wrap (high - low) = high - low := IntWalk.i64_in _ (by omega)
  have w2 : IntKind.i64.wrap (high - low + 1) = high - low + 1 := IntWalk.i64_in _ (by omega)
  have hz : high - low + 1 ≠ 0 := by omega
  have e1 : ∀ t, binOp .rem t (.int .i64 n) (.int .i64 (high - low + 1)) = pure (.int .i64 (n.tmod (high - low + 1))) := by
    intro t
    simp only [binOp, Op.intDiv]
    rw [if_neg (by simp)]
    rw [if_neg hz]
  generalize n.tmod (high - low + 1) = m at hr1 hr2 e1
  by_cases hm : m < 0
  · have w3 : IntKind.i64.wrap (m + high) = m + high := IntWalk.i64_in _ (by omega)
    have w4 : IntKind.i64.wrap (m + high - low) = m + high - low := IntWalk.i64_in _ (by omega)
    have w5 : IntKind.i64.wrap (m + high - low + 1) = m + high - low + 1 := IntWalk.i64_in _ (by omega)
    have w6 : IntKind.i64.wrap (low + (m + high - low + 1)) = low + (m + high - low + 1) := IntWalk.i64_in _ (by omega)
    go_enter Tryd.func17, Tryd.ntmps17
    go_wp2_with fail
    go_ret
    exact ⟨_, by omega, by omega, rfl, Fr.refl _ _⟩
  · have w6 : IntKind.i64.wrap (low + m) = low + m := IntWalk.i64_in _ (by omega)
    go_enter Tryd.func17, Tryd.ntmps17
    go_wp2_with fail
    go_ret
    exact ⟨_, by omega, by omega, rfl, Fr.refl _ _⟩

set_option maxRecDepth 100000 in
set_option maxHeartbeats 1000000 in
theorem many_any (c : UInt8) (n : Nat) (hn : n ≤ 1048576) (w : World) :
    Calls Tryd.prog 18 #[.int .u8 (bt c), .int .i64 n] w fun e w' => e = .returned (.string ⟨(List.replicate n c).toArray⟩) ∧ Fr [] w w' := by
  have hi5 : (Tryd.prog.info? 5).map (fun i => (i.zero, i.size, i.bytes)) = some (some (.int .u8 0), 1, 1) := by kernel_rfl
  obtain ⟨iI, hiI, hz0, hz1, hz2⟩ := info_parts hi5
  go_enter Tryd.func18, Tryd.ntmps18
  go_wp2_with fail
  go_loopw [5, 6] (fun vb v6 wr => ∃ i : Nat, i ≤ n ∧ v6 = .int .i64 i ∧ wr.ownsRow w.heap.size 5 1 vb i (byteCells (List.replicate i c)) ∧ Below w.heap.size w wr) (fun _ v _ => n - (intOf v).toNat)
  case atStart => exact ⟨0, by omega, rfl, World.ownsRow_nil _ _ _ _, Below.refl _ _⟩
  case round =>
    obtain ⟨i, hi, rfl, h0, hF⟩ := hrel
    have hsz := hF.size
    by_cases hl : i < n
    · have l1 : (i : Int) < n := by omega
      have A2 := At.alloc_new wr 5 #[Value.int .u8 (bt c)]
      go_wp2_with (first
        | (at_builtin; refine wpList_append_own _ rfl _ _ _ rfl w.heap.size 5 iI (.int .u8 0) 1 1 Tryd.underlying59 hiI hz0 hz1 hz2 rfl (by decide) _ i _ rfl (World.ownsRow.alloc h0 _) ⟨wr.heap.size, 0, none⟩ 1 1 (byteCells [c]) rfl rfl (by intro j u hj; rw [addr_add', Nat.zero_add]; exact (A2.cell j).trans hj) (byteCells_one _) (by simp [maxLen]; omega) (by omega) (by simp; omega) ?_; intro v2 w2 o2 gr2 _)
        | fail)
      refine ⟨⟨i + 1, by omega, by simp, ?_, ?_⟩, by simp only [intOf]; omega⟩
      · rw [List.replicate_succ']
        simpa [byteCells] using o2
      · refine (hF.alloc (by omega) _).grown gr2 (by simp; omega) ?_
        intro x hx
        exact (h0.lt x hx).1
    · obtain rfl : i = n := by omega
      have hcv := run_strOwn Tryd.underlying59 Tryd.underlying5 Tryd.underlying9 h0
      go_wp2_with fail
      go_ret
      exact ⟨rfl, Fr.ofBelow hF⟩

/-- HMAC of one text. -/
theorem hmac_one (key text : ByteArray) (hkey : key.size ≤ 1152921504606846976) (ht : text.size ≤ 576460752303423488) (w : World) (g : Nat) (hI : First w) (hR : Roots w) (h : At w g 9 [.string text]) :
    Calls Tryd.prog 13 #[.string key, .slice (some ⟨g, 0, none⟩) 1 1] w fun e w' => e = .returned (.string ⟨(hmacL key.data.toList text.data.toList).toArray⟩) ∧ Fr [] w w' := by
  have hj : joinL [text] = text.data.toList := by simp [joinL]
  have := hmac_any key hkey [text] (some ⟨g, 0, none⟩) 1 (.inl ⟨_, _, rfl⟩) (by rw [hj]; simpa using ht) (by simp) w hI hR (Texts.ofAt h)
  rw [hj] at this
  exact this
set_option maxRecDepth 100000 in
set_option maxHeartbeats 1000000 in
theorem keys_law (key : ByteArray) (hkey : key.size ≤ 140737488351232) (zeros : Int) (hz : (Lit.int .i64 zeros).wf = true) (text : ByteArray) (htx : text.size ≤ 140737488351232) (w : World) (hI : First w) (hR : Roots w) :
    Calls Tryd.prog 4 #[.string key, .int .i64 zeros, .string text] w fun e w' => e = .returned (.bool true) ∧ Fr [] w w' := by
  have cH : ∀ w g, First w → Roots w → At w g 9 [.string text] → _ := fun w g h1 h2 h3 => hmac_one key text (by omega) (by omega) w g h1 h2 h3
  have hXl : (⟨(hmacL key.data.toList text.data.toList).toArray⟩ : ByteArray).size = 32 := by show (hmacL _ _).toArray.size = 32; rw [List.size_toArray, hmacL_len]
  have hF := Fr.refl [] w
  have mk1 : True := trivial
  have hKl : key.data.toList.length = key.size := by simp
  have hzr : -9223372036854775808 ≤ zeros ∧ zeros ≤ 9223372036854775807 := by
    have := hz
    simp [Lit.wf, IntKind.min, IntKind.max, IntKind.signed, IntKind.bits] at this
    omega
  by_cases h64 : 64 < key.size
  · have l1 : (64 : Int) < key.size := by omega
    have cS : ∀ w g, First w → Roots w → At w g 9 [.string key] → _ := fun w g h1 h2 h3 => sum_one key (by omega) w g h1 h2 h3
    have hsl : (⟨(shaL key.data.toList).toArray⟩ : ByteArray).size = 32 := by show (shaL _).toArray.size = 32; rw [List.size_toArray, shaL_len]
    have cK : ∀ w g, First w → Roots w → At w g 9 [.string text] → Calls Tryd.prog 13 #[.string ⟨(shaL key.data.toList).toArray⟩, .slice (some ⟨g, 0, none⟩) 1 1] w fun e w' => e = .returned (.string ⟨(hmacL key.data.toList text.data.toList).toArray⟩) ∧ Fr [] w w' := fun w g h1 h2 h3 => by
      have := hmac_one ⟨(shaL key.data.toList).toArray⟩ text (by omega) (by omega) w g h1 h2 h3
      rw [show (⟨(shaL key.data.toList).toArray⟩ : ByteArray).data.toList = shaL key.data.toList from rfl, hmacL_sum _ _ (by omega)] at this
      exact this
    generalize (⟨(hmacL key.data.toList text.data.toList).toArray⟩ : ByteArray) = X at cH cK hXl
    generalize (⟨(shaL key.data.toList).toArray⟩ : ByteArray) = Y at cS cK
    clear h64 hKl hsl
    go_enter Tryd.func4, Tryd.ntmps4
    go_wp2_with (first
      | (go_at_call 13; clear mk1; refine (cH _ _ (hI.keep (hF.trans (Fr.alloc _ _ _))) (hR.keep (hF.trans (Fr.alloc [] _ _)) (by simp)) (At.alloc_new _ _ _)).mono ?_; rintro e w1 ⟨rfl, f1⟩; have hF := hF.trans ((Fr.alloc _ _ _).trans f1))
      | (go_at_call 16; refine (cS _ _ (hI.keep (hF.trans (Fr.alloc _ _ _))) (hR.keep (hF.trans (Fr.alloc [] _ _)) (by simp)) (At.alloc_new _ _ _)).mono ?_; rintro e w2 ⟨rfl, f2⟩; have hF := hF.trans ((Fr.alloc _ _ _).trans f2))
      | (go_at_call 13; refine (cK _ _ (hI.keep (hF.trans (Fr.alloc _ _ _))) (hR.keep (hF.trans (Fr.alloc [] _ _)) (by simp)) (At.alloc_new _ _ _)).mono ?_; rintro e w3 ⟨rfl, f3⟩; have hF := hF.trans ((Fr.alloc _ _ _).trans f3))
      | fail)
    go_ret
    exact ⟨rfl, hF⟩
  · have l1 : ¬ (64 : Int) < key.size := by omega
    have w1 : IntKind.i64.wrap (64 - (key.size : Int)) = 64 - (key.size : Int) := IntWalk.i64_in _ (by omega)
    have cC := fun w => clipped_any zeros 0 (64 - (key.size : Int)) hzr (by omega) (by omega) (by omega) w
    have cK : ∀ (n : Nat), key.size + n ≤ 64 → ∀ w g, First w → Roots w → At w g 9 [.string text] → Calls Tryd.prog 13 #[.string (key ++ ⟨(List.replicate n 0).toArray⟩), .slice (some ⟨g, 0, none⟩) 1 1] w fun e w' => e = .returned (.string ⟨(hmacL key.data.toList text.data.toList).toArray⟩) ∧ Fr [] w w' := fun n hn w g h1 h2 h3 => by
      have hsz : (key ++ ⟨(List.replicate n 0).toArray⟩ : ByteArray).size = key.size + n := by rw [ByteArray.size_append]; show key.size + (List.replicate n (0 : UInt8)).toArray.size = _; simp
      have hd : (key ++ ⟨(List.replicate n 0).toArray⟩ : ByteArray).data.toList = key.data.toList ++ zerosB n := by rw [ByteArray.data_append]; simp [zerosB]
      have := hmac_one (key ++ ⟨(List.replicate n 0).toArray⟩) text (by omega) (by omega) w g h1 h2 h3
      rw [hd, hmacL_zeros _ _ _ (by omega)] at this
      exact this
    generalize (⟨(hmacL key.data.toList text.data.toList).toArray⟩ : ByteArray) = X at cH cK hXl
    have H64 := Lib.hid h64
    clear h64 hKl
    go_enter Tryd.func4, Tryd.ntmps4
    go_wp2_with (first
      | (go_at_call 13; clear mk1; refine (cH _ _ (hI.keep (hF.trans (Fr.alloc _ _ _))) (hR.keep (hF.trans (Fr.alloc [] _ _)) (by simp)) (At.alloc_new _ _ _)).mono ?_; rintro e w1 ⟨rfl, f1⟩; have hF := hF.trans ((Fr.alloc _ _ _).trans f1))
      | (go_at_call 17; refine (cC _).mono ?_; rintro e w2 ⟨r, hr0, hr1, rfl, f2⟩; have hF := hF.trans f2; obtain ⟨n, rfl⟩ : (∃ n : Nat, r = n) := ⟨r.toNat, by omega⟩; have hn : key.size + n ≤ 64 := (by have := H64.out; omega); have hkn := cK n hn; have k1 : ¬ 9223372036854775807 < key.size + n := (by omega))
      | (go_at_call 18; refine (many_any 0 n (by omega) _).mono ?_; rintro e w3 ⟨rfl, f3⟩; have hF := hF.trans f3)
      | (go_at_call 13; refine (hkn _ _ (hI.keep (hF.trans (Fr.alloc _ _ _))) (hR.keep (hF.trans (Fr.alloc [] _ _)) (by simp)) (At.alloc_new _ _ _)).mono ?_; rintro e w4 ⟨rfl, f4⟩; have hF := hF.trans ((Fr.alloc _ _ _).trans f4))
      | fail)
    go_ret
    exact ⟨rfl, hF⟩
end Go.Proofs.YtbpaknnnkmjgjaaDoor
