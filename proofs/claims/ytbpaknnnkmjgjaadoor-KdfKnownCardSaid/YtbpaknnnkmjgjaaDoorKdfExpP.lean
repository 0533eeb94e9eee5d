/- Expand in plain Lean. No program here. -/
import Derived.Test.YtbpaknnnkmjgjaaDoorKdfP
namespace Go.Proofs.YtbpaknnnkmjgjaaDoor
open Go.RowKit Go.Lib Base
set_option linter.unusedVariables false
set_option linter.unusedSimpArgs false

/-- The i-th piece, and the pieces up to it. -/
def expT (K I : List UInt8) : Nat → List UInt8
  | 0 => []
  | i + 1 => hmacL K (expT K I i ++ I ++ [UInt8.ofNat (i + 1)])
def expA (K I : List UInt8) : Nat → List UInt8
  | 0 => []
  | i + 1 => expA K I i ++ expT K I (i + 1)
theorem expT_len (K I : List UInt8) (i : Nat) (h : i ≠ 0) : (expT K I i).length = 32 := by
  cases i with
  | zero => exact absurd rfl h
  | succ i => exact hmacL_len _ _
theorem expT_le (K I : List UInt8) (i : Nat) : (expT K I i).length ≤ 32 := by
  cases i with
  | zero => simp [expT]
  | succ i => rw [expT_len _ _ _ (by omega)]; omega
theorem expA_len (K I : List UInt8) : ∀ i, (expA K I i).length = 32 * i
  | 0 => rfl
  | i + 1 => by
    have h := expA_len K I i
    have h2 := expT_len K I (i + 1) (by omega)
    simp only [expA, List.length_append]; omega
/-- So many pieces give n bytes. -/
def piecesN (n : Nat) : Nat := (n + 31) / 32
def expL (K I : List UInt8) (n : Nat) : List UInt8 := (expA K I (piecesN n)).take n
theorem expL_len (K I : List UInt8) (n : Nat) : (expL K I n).length = n := by
  unfold expL
  rw [List.length_take, expA_len]
  unfold piecesN; omega
theorem str_take (l : List UInt8) (n : Nat) : (⟨l.toArray⟩ : ByteArray).extract 0 n = ⟨(l.take n).toArray⟩ := by
  apply ByteArray.ext
  rw [ByteArray.data_extract]
  apply Array.toList_inj.1
  rw [Array.toList_extract, List.extract_eq_take_drop]
  simp
theorem ofNat_wrap (i : Nat) (h : i ≤ 255) : IntKind.u8.wrap (i : Int) = bt (UInt8.ofNat i) := by
  rw [wrap8_nat _ (by omega)]; unfold bt; simp; omega
end Go.Proofs.YtbpaknnnkmjgjaaDoor
