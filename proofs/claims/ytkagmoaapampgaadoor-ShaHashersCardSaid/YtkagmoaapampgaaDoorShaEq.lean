/- Two rows of eight words compared. -/
import Derived.Test.YtkagmoaapampgaaDoorShaTake
import Derived.ChangeKeysEq
import Derived.Laws.StructEq
namespace Go.Proofs.YtkagmoaapampgaaDoor
open Go.RowKit Go.Lib Base
set_option linter.unusedVariables false
set_option linter.unusedSimpArgs false

theorem part_w (A : List UInt32) (i : Nat) (h : i < A.length) (w : World) : (part 70 (wcells A).toArray (i * 1)).run Tryd.prog w = .ok (.int .u32 (wd (A.getD i 0))) w := by
  obtain ⟨iI, hiI, hz0, hz1, hz2⟩ := info_parts (P := Tryd.prog) (show (Tryd.prog.info? 70).map (fun i => (i.zero, i.size, i.bytes)) = some (some (.int .u32 0), 1, 4) by kernel_rfl)
  have g := wcells_get A i h
  simp [part, sizeOf, typeInfo, hiI, hz1, go_sem, g]
theorem eqW (d : Nat) (A B : List UInt32) (w : World) : ∀ is : List Nat, (∀ i ∈ is, i < A.length ∧ i < B.length) →
    (Op.eqItems (d + 1) 70 1 (wcells A).toArray (wcells B).toArray is).run Tryd.prog w = .ok (is.all fun i => A.getD i 0 == B.getD i 0) w
  | [], _ => by simp [Op.eqItems]
  | i :: is, h => by
    have h1 := h i (by simp)
    have ih := eqW d A B w is (fun j hj => h j (by simp [hj]))
    simp only [Op.eqItems, Sem.run_bind, part_w A i h1.1, part_w B i h1.2, Result.andThen_ok, run_equalIn_int w d 70 .u32 .u32 _ _ Tryd.underlying70, wd_beq, List.all_cons]
    cases hc : (A.getD i 0 == B.getD i 0)
    · simp
    · simp [ih]
theorem eq8 (A B : List UInt32) (hA : A.length = 8) (hB : B.length = 8) (w : World) : (Op.equalIn 10000 72 (.agg (wcells A).toArray) (.agg (wcells B).toArray)).run Tryd.prog w = .ok (decide (A = B)) w := by
  obtain ⟨iI, hiI, hz0, hz1, hz2⟩ := info_parts (P := Tryd.prog) (show (Tryd.prog.info? 70).map (fun i => (i.zero, i.size, i.bytes)) = some (some (.int .u32 0), 1, 4) by kernel_rfl)
  have hc : Tryd.prog.cellsOf 70 = 1 := by kernel_rfl
  rw [run_equalIn_array (P := Tryd.prog) w 9999 _ _ Tryd.underlying72 hiI, hc, eqW 9998 A B w _ (by intro i hi; simp at hi; omega)]
  congr 1
  match A, hA, B, hB with
  | [a, b, c, d, e, f, g, h], _, [a', b', c', d', e', f', g', h'], _ =>
    rw [Bool.eq_iff_iff]
    simp [List.range, List.range.loop]
end Go.Proofs.YtkagmoaapampgaaDoor
