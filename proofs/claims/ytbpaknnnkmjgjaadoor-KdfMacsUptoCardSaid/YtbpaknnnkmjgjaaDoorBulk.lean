/- The bulk of texts. No program here. -/
import Derived.Test.YtbpaknnnkmjgjaaDoorShaSums
namespace Go.Proofs.YtbpaknnnkmjgjaaDoor
open Go.RowKit Go.Lib Go.Joins Base
set_option linter.unusedVariables false
set_option linter.unusedSimpArgs false

def bulkL (ps : List ByteArray) : Nat := (ps.map fun p => p.size + 1).sum
theorem bulkL_take (ps : List ByteArray) (i : Nat) (h : i < ps.length) : bulkL (ps.take (i + 1)) = bulkL (ps.take i) + (ps[i].size + 1) := by
  unfold bulkL
  rw [List.take_add_one, List.getElem?_eq_getElem h, List.map_append, List.sum_append]
  simp
theorem bulkL_le (ps : List ByteArray) (i : Nat) : bulkL (ps.take i) ≤ bulkL ps := by
  have e : bulkL ps = bulkL (ps.take i) + bulkL (ps.drop i) := by
    unfold bulkL; rw [← List.sum_append, ← List.map_append, List.take_append_drop]
  omega
theorem joinL_bulk : ∀ (ps : List ByteArray), (joinL ps).length + ps.length = bulkL ps
  | [] => rfl
  | p :: r => by
    have := joinL_bulk r
    simp [joinL, bulkL] at this ⊢; omega
end Go.Proofs.YtbpaknnnkmjgjaaDoor
