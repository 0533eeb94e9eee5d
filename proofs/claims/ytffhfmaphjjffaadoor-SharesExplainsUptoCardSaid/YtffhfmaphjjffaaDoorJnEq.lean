/- Two rows of bytes, compared. -/
import Derived.Test.YtffhfmaphjjffaaDoorJnTogP
import Derived.ChangeKeysEq
namespace Go.Proofs.YtffhfmaphjjffaaDoor
open Go.RowKit Go.Lib Go.Joins Base Gf
set_option linter.unusedVariables false
set_option linter.unusedSimpArgs false

theorem byteCells_get (l : List UInt8) (i : Nat) (h : i < l.length) : ((byteCells l).toArray)[i]? = some (.int .u8 (bt (l.getD i 0))) := by
  simp [byteCells, h, List.getD, bt]
theorem run_eqBytes {P : Program} {e : TypeId} (he : P.plainKey e = true) (hu : P.underlying e = some (.int .u8)) (d : Nat) (R O : List UInt8) (w : World) : ∀ (is : List Nat), (∀ i ∈ is, i < R.length ∧ i < O.length) →
    (Op.eqItems (d + 1) e 1 (byteCells R).toArray (byteCells O).toArray is).run P w = .ok (decide (∀ i ∈ is, R.getD i 0 = O.getD i 0)) w
  | [], _ => by simp [Op.eqItems]
  | i :: is, h => by
    obtain ⟨h1, h2⟩ := h i (by simp)
    have ih := run_eqBytes he hu d R O w is (fun j hj => h j (by simp [hj]))
    have p1 := run_part_plain (P := P) w he (byteCells_get R i h1)
    have p2 := run_part_plain (P := P) w he (byteCells_get O i h2)
    have p3 := run_equalIn_int (P := P) w d e .u8 .u8 (bt (R.getD i 0)) (bt (O.getD i 0)) hu
    simp only [Op.eqItems, Nat.mul_one, Sem.run_bind, p1, p2, p3, Result.andThen_ok]
    by_cases hx : R.getD i 0 = O.getD i 0
    · rw [hx, beq_self_eq_true]
      simp only [Bool.not_true, Bool.false_eq_true, if_false, ih]
      congr 1
      rw [decide_eq_decide]
      constructor
      · intro hh j hj
        rcases List.mem_cons.1 hj with rfl | hj
        · exact hx
        · exact hh j hj
      · intro hh j hj; exact hh j (by simp [hj])
    · have : (bt (R.getD i 0) == bt (O.getD i 0)) = false := by
        rw [beq_eq_false_iff_ne]; intro h; exact hx (UInt8.toNat_inj.1 (by unfold bt at h; omega))
      rw [this]
      simp only [Bool.not_false, if_true, Sem.run_pure]
      congr 1
      symm
      rw [decide_eq_false_iff_not]
      intro hh; exact hx (hh i (by simp))
/-- Rows that are one, rows that are not. -/
theorem run_neqRows {P : Program} {t e : TypeId} {i : TypeInfo} {n : Nat} (he : P.plainKey e = true) (hu : P.underlying e = some (.int .u8)) (ht : P.underlying t = some (.array n e)) (hi : P.info? e = some i) (hc : P.cellsOf e = 1) (R O : List UInt8) (hR : R.length = n) (hO : O.length = n) (w : World) :
    (binOp .neq t (.agg (byteCells R).toArray) (.agg (byteCells O).toArray)).run P w = .ok (.bool (!decide (R = O))) w := by
  have e1 : (Op.equal t (.agg (byteCells R).toArray) (.agg (byteCells O).toArray)).run P w = .ok (decide (R = O)) w := by
    show (Op.equalIn (9999 + 1) t _ _).run P w = _
    rw [run_equalIn_array w 9999 _ _ ht hi, hc, run_eqBytes he hu 9998 R O w _ (fun j hj => by have := List.mem_range.1 hj; omega)]
    congr 1
    rw [decide_eq_decide]
    constructor
    · intro h
      refine List.ext_getElem? fun j => ?_
      by_cases hj : j < n
      · have := h j (List.mem_range.2 hj)
        simp only [List.getD, List.getElem?_eq_getElem (show j < R.length by omega), List.getElem?_eq_getElem (show j < O.length by omega), Option.getD_some] at this
        rw [List.getElem?_eq_getElem (show j < R.length by omega), List.getElem?_eq_getElem (show j < O.length by omega), this]
      · rw [List.getElem?_eq_none (by omega), List.getElem?_eq_none (by omega)]
    · rintro rfl j _; rfl
  simp only [binOp, Sem.run_bind, e1, Result.andThen_ok, Sem.run_pure]
/-- The comparison, as an operation. -/
theorem exec_neqRows {P : Program} {o : Oper} {ev : Operand → Value} {t ty : TypeId} {x y : Operand} {A B : Array Value} {v : Value} {w : World} (ho : o.op = .binOp .neq t x y ty) (hx : ev x = .agg A) (hy : ev y = .agg B) (hg : P.eqGuardType P.depth t = false) (h : (binOp .neq t (.agg A) (.agg B)).run P w = .ok v w) :
    (execOp ev o).run P w = .ok (.value v) w := by
  unfold execOp
  simp only [ho, hx, hy, Sem.run_bind, run_eqGuard_agg w .neq t x y A B hg, Result.andThen_ok, h, Sem.run_pure]
end Go.Proofs.YtffhfmaphjjffaaDoor
