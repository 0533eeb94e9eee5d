/- The document's keyed sum. -/
import Derived.Test.YtbpaknnnkmjgjaaDoorKdfHmac
import Derived.Test.YtbpaknnnkmjgjaaDoorRef2E
namespace Go.Proofs.YtbpaknnnkmjgjaaDoor
open Go.RowKit Go.Lib Go.Joins Base
set_option linter.unusedVariables false
set_option linter.unusedSimpArgs false

theorem keyOf_in (K : List UInt8) (i : Nat) (h : i < (shortK K).length) : (keyOf K).getD i 0 = (shortK K).getD i 0 := by
  simp [keyOf, List.getD, List.getElem?_append_left h]
theorem keyOf_out (K : List UInt8) (i : Nat) (h : (shortK K).length ≤ i) (h2 : i < 64) : (keyOf K).getD i 0 = 0 := by
  simp only [keyOf, List.getD, zerosB]
  rw [List.getElem?_append_right h, List.getElem?_replicate, if_pos (by omega)]; rfl
theorem map_getD (K : List UInt8) (c : UInt8) (i : Nat) (h : i < K.length) : (K.map fun x => x ^^^ c).getD i 0 = K.getD i 0 ^^^ c := by
  simp [List.getD, h]

set_option maxRecDepth 100000 in
set_option maxHeartbeats 1000000 in
theorem rpadded_any (key : ByteArray) (hkey : key.size ≤ 140737488355328) (c : UInt8) (w : World) (hP : Powers w) (hQ : RefRoots w) :
    Calls Tryd.prog 52 #[.string key, .int .u8 (bt c)] w fun e w' => e = .returned (.string ⟨((keyOf key.data.toList).map fun x => x ^^^ c).toArray⟩) ∧ Fr [] w w' := by
  have hi5 : (Tryd.prog.info? 5).map (fun i => (i.zero, i.size, i.bytes)) = some (some (.int .u8 0), 1, 1) := by kernel_rfl
  obtain ⟨iI, hiI, hz0, hz1, hz2⟩ := info_parts hi5
  obtain ⟨X, hX⟩ : ∃ X, X = (keyOf key.data.toList).map fun x => x ^^^ c := ⟨_, rfl⟩
  have hXl : X.length = 64 := by rw [hX, List.length_map, keyOf_len]
  have hks : key.data.toList.length = key.size := by simp
  have hKX : ∀ k : ByteArray, k.data.toList = shortK key.data.toList → Hid (X = ((keyOf key.data.toList).map fun x => x ^^^ c) ∧ (∀ i, i < k.size → X.getD i 0 = k.data.toList.getD i 0 ^^^ c) ∧ ∀ i, k.size ≤ i → i < 64 → X.getD i 0 = 0 ^^^ c) := fun k hk => by
    have hkl : k.size = (shortK key.data.toList).length := by rw [← hk]; simp
    have hs := shortK_len key.data.toList
    refine Lib.hid ⟨hX, fun i hi => ?_, fun i hi h6 => ?_⟩
    · rw [hX, map_getD _ _ _ (by rw [keyOf_len]; omega), keyOf_in _ _ (by omega), hk]
    · rw [hX, map_getD _ _ _ (by rw [keyOf_len]; omega), keyOf_out _ _ (by omega) h6]
  clear hX
  by_cases hlong : 64 < key.size
  · have l0 : (64 : Int) < key.size := by omega
    have hsk : shortK key.data.toList = shaL key.data.toList := if_pos (by omega)
    have cS := rsum_any key hkey w hP hQ
    rw [← hsk] at cS
    obtain ⟨k, hk⟩ : ∃ k : ByteArray, k = ⟨(shortK key.data.toList).toArray⟩ := ⟨_, rfl⟩
    have HX := hKX k (by rw [hk])
    rw [← hk] at cS
    clear hk hsk hKX hlong hks
    go_enter Tryd.func52, Tryd.ntmps52
    go_wp2_with (first
      | (go_at_call 53; refine cS.mono ?_; clear cS; rintro e w1 ⟨rfl, hF⟩)
      | fail)
    have hF' := hF
    go_loopw [6, 7] (fun v6 v7 wr => ∃ i : Nat, i ≤ 64 ∧ v7 = .int .i64 i ∧ wr.ownsRow w1.heap.size 5 1 v6 i (byteCells (X.take i)) ∧ Below w1.heap.size w1 wr) (fun _ v _ => 64 - (intOf v).toNat)
    case atStart => exact ⟨0, by omega, rfl, World.ownsRow_nil _ _ _ _, Below.refl _ _⟩
    case round =>
      obtain ⟨i, hi, rfl, h0, hB⟩ := hrel
      have hsz := hB.size
      by_cases hl : i < 64
      · have l1 : (i : Int) < 64 := by omega
        obtain ⟨y, hy⟩ : ∃ y, y = X.getD i 0 := ⟨_, rfl⟩
        have HT : Hid (X.take (i + 1) = X.take i ++ [y]) := Lib.hid (by rw [List.take_add_one, List.getElem?_eq_getElem (by omega), hy]; simp [List.getD, show i < X.length by omega])
        have A2 := At.alloc_new wr 5 #[Value.int .u8 (bt y)]
        by_cases hk : i < k.size
        · have l2 : (i : Int) < k.size := by omega
          obtain ⟨x, hx⟩ : ∃ x, x = k.data.toList.getD i 0 := ⟨_, rfl⟩
          have gx : k[i] = x := bget _ (by have hp0 : i < k.data.size := hk; rw [hx, List.getD, Array.getElem?_toList, Array.getElem?_eq_getElem hp0]; rfl)
          have x3 : ∀ t, binOp .xor t (.int .u8 (x.toNat : Int)) (.int .u8 (bt c)) = pure (.int .u8 (bt y)) := fun t => by rw [hy, HX.out.2.1 i hk, ← hx]; exact binOp_xor8 t x c
          clear hx hy
          go_wp2_with (first
            | (at_builtin; refine wpList_append_own _ rfl _ _ _ rfl w1.heap.size 5 iI (.int .u8 0) 1 1 Tryd.underlying59 hiI hz0 hz1 hz2 rfl (by decide) _ i _ rfl (World.ownsRow.alloc h0 _) ⟨wr.heap.size, 0, none⟩ 1 1 (byteCells [y]) rfl rfl (by intro j u hj; rw [addr_add', Nat.zero_add]; exact (A2.cell j).trans hj) (byteCells_one _) (by simp [maxLen]; omega) (by omega) (by simp; omega) ?_; intro v2 w2 o2 gr2 _)
            | fail)
          refine ⟨⟨i + 1, by omega, by simp, by rw [HT.out]; simpa [byteCells] using o2, (hB.alloc (by omega) _).grown gr2 (by simp; omega) (fun x hx => (h0.lt x hx).1)⟩, by simp only [intOf]; omega⟩
        · have l2 : ¬ (i : Int) < k.size := by omega
          have x3 : ∀ t, binOp .xor t (.int .u8 0) (.int .u8 (bt c)) = pure (.int .u8 (bt y)) := fun t => by rw [hy, HX.out.2.2 i (by omega) hl]; exact binOp_xor8 t 0 c
          clear hy
          go_wp2_with (first
            | (at_builtin; refine wpList_append_own _ rfl _ _ _ rfl w1.heap.size 5 iI (.int .u8 0) 1 1 Tryd.underlying59 hiI hz0 hz1 hz2 rfl (by decide) _ i _ rfl (World.ownsRow.alloc h0 _) ⟨wr.heap.size, 0, none⟩ 1 1 (byteCells [y]) rfl rfl (by intro j u hj; rw [addr_add', Nat.zero_add]; exact (A2.cell j).trans hj) (byteCells_one _) (by simp [maxLen]; omega) (by omega) (by simp; omega) ?_; intro v2 w2 o2 gr2 _)
            | fail)
          refine ⟨⟨i + 1, by omega, by simp, by rw [HT.out]; simpa [byteCells] using o2, (hB.alloc (by omega) _).grown gr2 (by simp; omega) (fun x hx => (h0.lt x hx).1)⟩, by simp only [intOf]; omega⟩
      · obtain rfl : i = 64 := by omega
        rw [List.take_of_length_le (by omega)] at h0
        have hcv := run_strOwn Tryd.underlying59 Tryd.underlying5 Tryd.underlying9 h0
        go_wp2_with fail
        go_ret
        exact ⟨by rw [← HX.out.1]; rfl, hF'.trans (Fr.ofBelow hB)⟩
  · have l0 : ¬ (64 : Int) < key.size := by omega
    have hsk : shortK key.data.toList = key.data.toList := if_neg (by omega)
    have HL := Lib.hid (And.intro hlong hks)
    obtain ⟨k, hk⟩ : ∃ k, k = key := ⟨_, rfl⟩
    have HX := hKX k (by rw [hk]; exact hsk.symm)
    obtain ⟨w1, hw⟩ : ∃ w1, w1 = w := ⟨_, rfl⟩
    have hF : Fr [] w w1 := by rw [hw]; exact Fr.refl _ _
    go_enter Tryd.func52, Tryd.ntmps52
    clear hsk hKX hlong hks
    go_wp2_with fail
    rw [← hw, ← hk]
    clear hw hk
    have hF' := hF
    go_loopw [6, 7] (fun v6 v7 wr => ∃ i : Nat, i ≤ 64 ∧ v7 = .int .i64 i ∧ wr.ownsRow w1.heap.size 5 1 v6 i (byteCells (X.take i)) ∧ Below w1.heap.size w1 wr) (fun _ v _ => 64 - (intOf v).toNat)
    case atStart => exact ⟨0, by omega, rfl, World.ownsRow_nil _ _ _ _, Below.refl _ _⟩
    case round =>
      obtain ⟨i, hi, rfl, h0, hB⟩ := hrel
      have hsz := hB.size
      by_cases hl : i < 64
      · have l1 : (i : Int) < 64 := by omega
        obtain ⟨y, hy⟩ : ∃ y, y = X.getD i 0 := ⟨_, rfl⟩
        have HT : Hid (X.take (i + 1) = X.take i ++ [y]) := Lib.hid (by rw [List.take_add_one, List.getElem?_eq_getElem (by omega), hy]; simp [List.getD, show i < X.length by omega])
        have A2 := At.alloc_new wr 5 #[Value.int .u8 (bt y)]
        by_cases hk : i < k.size
        · have l2 : (i : Int) < k.size := by omega
          obtain ⟨x, hx⟩ : ∃ x, x = k.data.toList.getD i 0 := ⟨_, rfl⟩
          have gx : k[i] = x := bget _ (by have hp0 : i < k.data.size := hk; rw [hx, List.getD, Array.getElem?_toList, Array.getElem?_eq_getElem hp0]; rfl)
          have x3 : ∀ t, binOp .xor t (.int .u8 (x.toNat : Int)) (.int .u8 (bt c)) = pure (.int .u8 (bt y)) := fun t => by rw [hy, HX.out.2.1 i hk, ← hx]; exact binOp_xor8 t x c
          clear hx hy
          go_wp2_with (first
            | (at_builtin; refine wpList_append_own _ rfl _ _ _ rfl w1.heap.size 5 iI (.int .u8 0) 1 1 Tryd.underlying59 hiI hz0 hz1 hz2 rfl (by decide) _ i _ rfl (World.ownsRow.alloc h0 _) ⟨wr.heap.size, 0, none⟩ 1 1 (byteCells [y]) rfl rfl (by intro j u hj; rw [addr_add', Nat.zero_add]; exact (A2.cell j).trans hj) (byteCells_one _) (by simp [maxLen]; omega) (by omega) (by simp; omega) ?_; intro v2 w2 o2 gr2 _)
            | fail)
          refine ⟨⟨i + 1, by omega, by simp, by rw [HT.out]; simpa [byteCells] using o2, (hB.alloc (by omega) _).grown gr2 (by simp; omega) (fun x hx => (h0.lt x hx).1)⟩, by simp only [intOf]; omega⟩
        · have l2 : ¬ (i : Int) < k.size := by omega
          have x3 : ∀ t, binOp .xor t (.int .u8 0) (.int .u8 (bt c)) = pure (.int .u8 (bt y)) := fun t => by rw [hy, HX.out.2.2 i (by omega) hl]; exact binOp_xor8 t 0 c
          clear hy
          go_wp2_with (first
            | (at_builtin; refine wpList_append_own _ rfl _ _ _ rfl w1.heap.size 5 iI (.int .u8 0) 1 1 Tryd.underlying59 hiI hz0 hz1 hz2 rfl (by decide) _ i _ rfl (World.ownsRow.alloc h0 _) ⟨wr.heap.size, 0, none⟩ 1 1 (byteCells [y]) rfl rfl (by intro j u hj; rw [addr_add', Nat.zero_add]; exact (A2.cell j).trans hj) (byteCells_one _) (by simp [maxLen]; omega) (by omega) (by simp; omega) ?_; intro v2 w2 o2 gr2 _)
            | fail)
          refine ⟨⟨i + 1, by omega, by simp, by rw [HT.out]; simpa [byteCells] using o2, (hB.alloc (by omega) _).grown gr2 (by simp; omega) (fun x hx => (h0.lt x hx).1)⟩, by simp only [intOf]; omega⟩
      · obtain rfl : i = 64 := by omega
        rw [List.take_of_length_le (by omega)] at h0
        have hcv := run_strOwn Tryd.underlying59 Tryd.underlying5 Tryd.underlying9 h0
        go_wp2_with fail
        go_ret
        exact ⟨by rw [← HX.out.1]; rfl, hF'.trans (Fr.ofBelow hB)⟩

/-- The document's keyed sum, of one text. -/
theorem rkeyed_any (key text : ByteArray) (hkey : key.size ≤ 140737488355328) (ht : text.size ≤ 140737488355264) (w : World) (hP : Powers w) (hQ : RefRoots w) :
    Calls Tryd.prog 41 #[.string key, .string text] w fun e w' => e = .returned (.string ⟨(hmacL key.data.toList text.data.toList).toArray⟩) ∧ Fr [] w w' := by
  obtain ⟨a, ha⟩ : ∃ a : ByteArray, a = ⟨(innerL key.data.toList).toArray⟩ := ⟨_, rfl⟩
  obtain ⟨b, hb⟩ : ∃ b : ByteArray, b = ⟨(outerL key.data.toList).toArray⟩ := ⟨_, rfl⟩
  have had : a.data.toList = innerL key.data.toList := by rw [ha]
  have hbd : b.data.toList = outerL key.data.toList := by rw [hb]
  have hal : a.size = 64 := by have : a.data.toList.length = a.size := by simp
                               rw [had, innerL_len] at this; omega
  have hbl : b.size = 64 := by have : b.data.toList.length = b.size := by simp
                               rw [hbd, outerL_len] at this; omega
  have c1 : ∀ w, Powers w → RefRoots w → Calls Tryd.prog 52 #[.string key, .int .u8 54] w fun e w' => e = .returned (.string a) ∧ Fr [] w w' := fun w h1 h2 => by rw [ha]; exact rpadded_any key hkey 54 w h1 h2
  have c2 : ∀ w, Powers w → RefRoots w → Calls Tryd.prog 52 #[.string key, .int .u8 92] w fun e w' => e = .returned (.string b) ∧ Fr [] w w' := fun w h1 h2 => by rw [hb]; exact rpadded_any key hkey 92 w h1 h2
  obtain ⟨s, hs⟩ : ∃ s : ByteArray, s = ⟨(shaL (innerL key.data.toList ++ text.data.toList)).toArray⟩ := ⟨_, rfl⟩
  have hsd : s.data.toList = shaL (innerL key.data.toList ++ text.data.toList) := by rw [hs]
  have hsl : s.size = 32 := by have : s.data.toList.length = s.size := by simp
                               rw [hsd, shaL_len] at this; omega
  have c3 : ∀ w, Powers w → RefRoots w → Calls Tryd.prog 53 #[.string (a ++ text)] w fun e w' => e = .returned (.string s) ∧ Fr [] w w' := fun w h1 h2 => by
    have := rsum_any (a ++ text) (by rw [ByteArray.size_append]; omega) w h1 h2
    rw [ByteArray.data_append, Array.toList_append, had] at this
    rw [hs]; exact this
  have c4 : ∀ w, Powers w → RefRoots w → Calls Tryd.prog 53 #[.string (b ++ s)] w fun e w' => e = .returned (.string ⟨(hmacL key.data.toList text.data.toList).toArray⟩) ∧ Fr [] w w' := fun w h1 h2 => by
    have := rsum_any (b ++ s) (by rw [ByteArray.size_append]; omega) w h1 h2
    rw [ByteArray.data_append, Array.toList_append, hbd, hsd] at this
    exact this
  have k1 : ¬ 9223372036854775807 < a.size + text.size := by omega
  have k2 : ¬ 9223372036854775807 < b.size + s.size := by omega
  have hF := Fr.refl [] w
  have mk1 : True := trivial
  have mk2 : True := trivial
  clear ha hb had hbd hal hbl hs hsd hsl hkey ht
  go_enter Tryd.func41, Tryd.ntmps41
  go_wp2_with (first
    | (go_at_call 52; clear mk1; refine (c1 _ (hP.keep hF) (hQ.keep hF)).mono ?_; clear c1; rintro e w1 ⟨rfl, f1⟩; have hF := hF.trans f1)
    | (go_at_call 52; refine (c2 _ (hP.keep hF) (hQ.keep hF)).mono ?_; rintro e w2 ⟨rfl, f2⟩; have hF := hF.trans f2)
    | (go_at_call 53; clear mk2; refine (c3 _ (hP.keep hF) (hQ.keep hF)).mono ?_; clear c3; rintro e w3 ⟨rfl, f3⟩; have hF := hF.trans f3)
    | (go_at_call 53; refine (c4 _ (hP.keep hF) (hQ.keep hF)).mono ?_; rintro e w4 ⟨rfl, f4⟩; have hF := hF.trans f4)
    | fail)
  go_ret
  exact ⟨rfl, hF⟩
end Go.Proofs.YtbpaknnnkmjgjaaDoor
