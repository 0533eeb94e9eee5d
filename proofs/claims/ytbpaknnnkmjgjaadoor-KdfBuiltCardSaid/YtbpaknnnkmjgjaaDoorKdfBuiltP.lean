/- The theorem of the layer in plain Lean: the last piece of what Expand and PBKDF2 give. No program here. -/
import Derived.Test.YtbpaknnnkmjgjaaDoorKdfPassP
namespace Go.Proofs.YtbpaknnnkmjgjaaDoor
open Go.RowKit Go.Lib Base
set_option linter.unusedVariables false
set_option linter.unusedSimpArgs false

theorem expL_whole (K I : List UInt8) (i : Nat) : expL K I (32 * i) = expA K I i := by
  unfold expL
  rw [show piecesN (32 * i) = i by unfold piecesN; omega, List.take_of_length_le (by rw [expA_len]; omega)]
theorem pbL_whole (K S : List UInt8) (r i : Nat) : pbL K S r (32 * i) = pbA K S r i := by
  unfold pbL
  rw [show piecesN (32 * i) = i by unfold piecesN; omega, List.take_of_length_le (by rw [pbA_len]; omega)]
/-- A piece of a text, as a list says it. -/
theorem str_piece (l a m b : List UInt8) (h : l = a ++ (m ++ b)) (i j : Nat) (hi : a.length = i) (hj : i + m.length = j) : (⟨l.toArray⟩ : ByteArray).extract i j = ⟨m.toArray⟩ := by
  subst h hi hj
  apply ByteArray.ext
  rw [ByteArray.data_extract]
  apply Array.toList_inj.1
  rw [Array.toList_extract, List.extract_eq_take_drop]
  simp
theorem exp_last (K I : List UInt8) (j : Nat) : (⟨(expL K I (32 * (j + 1))).toArray⟩ : ByteArray).extract (32 * j) (32 * (j + 1)) = ⟨(expT K I (j + 1)).toArray⟩ :=
  str_piece _ (expA K I j) (expT K I (j + 1)) [] (by rw [expL_whole, List.append_nil]; rfl) _ _ (expA_len _ _ _) (by rw [expT_len _ _ _ (by omega)]; omega)
theorem exp_ahead (K I : List UInt8) (j : Nat) : (⟨(expL K I (32 * (j + 2))).toArray⟩ : ByteArray).extract (32 * j) (32 * (j + 1)) = ⟨(expT K I (j + 1)).toArray⟩ :=
  str_piece _ (expA K I j) (expT K I (j + 1)) (expT K I (j + 2)) (by rw [expL_whole]; show (expA K I j ++ expT K I (j + 1)) ++ _ = _; rw [List.append_assoc]) _ _ (expA_len _ _ _) (by rw [expT_len _ _ _ (by omega)]; omega)
theorem pass_last (K S : List UInt8) (r j : Nat) : (⟨(pbL K S r (32 * (j + 1))).toArray⟩ : ByteArray).extract (32 * j) (32 * (j + 1)) = ⟨(pbF K (pbS S (j + 1)) r).toArray⟩ :=
  str_piece _ (pbA K S r j) (pbF K (pbS S (j + 1)) r) [] (by rw [pbL_whole, List.append_nil]; rfl) _ _ (pbA_len _ _ _ _) (by rw [pbF_len]; omega)
end Go.Proofs.YtbpaknnnkmjgjaaDoor
