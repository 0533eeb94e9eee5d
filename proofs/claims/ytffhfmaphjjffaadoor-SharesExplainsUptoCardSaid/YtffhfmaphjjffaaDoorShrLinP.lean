/- The sum of two splits, in plain Lean. No program here. -/
import Derived.Test.YtffhfmaphjjffaaDoorShrP
import Derived.Test.YtffhfmaphjjffaaDoorShrLawA
namespace Go.Proofs.YtffhfmaphjjffaaDoor
open Go.RowKit Go.Lib Base
set_option linter.unusedVariables false
set_option linter.unusedSimpArgs false

theorem xorL_app (a b c d : List UInt8) (h : a.length = b.length) : xorL (a ++ c) (b ++ d) = xorL a b ++ xorL c d := by
  unfold xorL; exact List.zipWith_append h
theorem list_getD_ext (a b : List UInt8) (h : a.length = b.length) (hg : ∀ j, j < a.length → a.getD j 0 = b.getD j 0) : a = b := by
  apply List.ext_getElem h
  intro j h1 h2
  have := hg j h1
  simpa [List.getD, h1, h2] using this
theorem rows_xor (A B : List UInt8) (n j : Nat) (hl : A.length = B.length) (hn : 32 * n ≤ A.length) (hj : j < 32) :
    (rowsL (xorL A B) n).map (fun r => r.getD j 0) = addP ((rowsL A n).map fun r => r.getD j 0) ((rowsL B n).map fun r => r.getD j 0) := by
  apply List.ext_getElem
  · simp [rowsL, addP]
  · intro i h1 h2
    have hi : i < n := by simpa [rowsL] using h1
    have e : ∀ X : List UInt8, ((X.drop (32 * i)).take 32).getD j 0 = X.getD (32 * i + j) 0 := fun X => by
      simp only [List.getD, List.getElem?_take, if_pos hj, List.getElem?_drop]
    simp only [rowsL, addP, List.getElem_map, List.getElem_zipWith, List.getElem_range]
    rw [e, e, e, xorL_get _ _ _ (by omega) (by omega)]
/-- The sum of two splits' values is the value of the sum. -/
theorem val_xor (m m' c c' : List UInt8) (k : Nat) (x : UInt8) (hm : m.length = 32) (hm' : m'.length = 32) (hc : c.length = 32 * (k - 1)) (hc' : c'.length = 32 * (k - 1)) (hk : 1 ≤ k) :
    valS (xorL m m') (xorL c c') k x = xorL (valS m c k x) (valS m' c' k x) := by
  have l1 : (valS m c k x).length = 32 := valS_len _ _ _ _ (by omega)
  have l2 : (valS m' c' k x).length = 32 := valS_len _ _ _ _ (by omega)
  have lx := xorL_len m m' (by omega)
  have lc := xorL_len c c' (by omega)
  have l3 : (valS (xorL m m') (xorL c c') k x).length = 32 := valS_len _ _ _ _ (by omega)
  apply list_getD_ext
  · rw [l3, xorL_len _ _ (by omega), l1]
  · intro j hj
    have hj32 : j < 32 := by omega
    rw [xorL_get _ _ _ (by omega) (by omega)]
    unfold valS
    rw [horR_get _ _ _ (rowsL_row _ _ (by rw [List.length_append]; omega)) hj32, horR_get _ _ _ (rowsL_row _ _ (by rw [List.length_append]; omega)) hj32, horR_get _ _ _ (rowsL_row _ _ (by rw [List.length_append]; omega)) hj32]
    rw [← xorL_app _ _ _ _ (by omega), rows_xor _ _ _ _ (by simp; omega) (by simp; omega) hj32, ev_add _ _ _ (by simp [rowsL])]
/-- The pieces of a share's text. -/
theorem text_head (x k : UInt8) (id v : List UInt8) (h1 : id.length = 8) : (textS x k id v).take 11 = 83 :: x :: k :: id := by
  have : textS x k id v = (83 :: x :: k :: id) ++ (v ++ (shaL (bodyS x k id v)).take 8) := by simp [textS, bodyS]
  rw [this]
  have l : (83 :: x :: k :: id).length = 11 := by simp [h1]
  rw [← l, List.take_left]
theorem text_val (x k : UInt8) (id v : List UInt8) (h1 : id.length = 8) (h2 : v.length = 32) : ((textS x k id v).drop 11).take 32 = v := by
  have : textS x k id v = (83 :: x :: k :: id) ++ (v ++ (shaL (bodyS x k id v)).take 8) := by simp [textS, bodyS]
  rw [this]
  have l : (83 :: x :: k :: id).length = 11 := by simp [h1]
  rw [← l, List.drop_left, ← h2, List.take_left]
theorem str_mid (l : List UInt8) (i j : Nat) (h : i ≤ j) : (⟨l.toArray⟩ : ByteArray).extract i j = ⟨((l.drop i).take (j - i)).toArray⟩ := by
  apply ByteArray.ext
  rw [ByteArray.data_extract]
  apply Array.toList_inj.1
  rw [Array.toList_extract, List.extract_eq_take_drop]
end Go.Proofs.YtffhfmaphjjffaaDoor
