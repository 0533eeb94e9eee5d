/- Beyond of the document: are texts more than the bound? -/
import Derived.Test.YtkagmoaapampgaaDoorShaSums
namespace Go.Proofs.YtkagmoaapampgaaDoor
open Go.RowKit Go.Lib Go.Joins Base
set_option linter.unusedVariables false
set_option linter.unusedSimpArgs false

/-- The texts' bytes, the texts themselves counted as well. -/
def bulkL (ps : List ByteArray) : Nat := (ps.map fun p => p.size + 1).sum
theorem bulkL_take (ps : List ByteArray) (i : Nat) (h : i < ps.length) : bulkL (ps.take (i + 1)) = bulkL (ps.take i) + (ps[i].size + 1) := by
  unfold bulkL
  rw [List.take_add_one, List.getElem?_eq_getElem h, List.map_append, List.sum_append]
  simp
theorem bulkL_le (ps : List ByteArray) (i : Nat) : bulkL (ps.take i) ≤ bulkL ps := by
  have e : bulkL ps = bulkL (ps.take i) + bulkL (ps.drop i) := by
    unfold bulkL; rw [← List.sum_append, ← List.map_append, List.take_append_drop]
  omega
theorem joinL_bulk : ∀ (ps : List ByteArray), (joinL ps).length + ps.length = bulkL ps
  | [] => rfl
  | p :: r => by
    have := joinL_bulk r
    simp [joinL, bulkL] at this ⊢; omega

set_option maxRecDepth 100000 in
set_option maxHeartbeats 1000000 in
theorem beyond_any (ps : List ByteArray) (ad : Option Addr) (cap : Nat) (hp63 : ps.length < 4611686018427387904) (w : World) (hp : Texts w ad ps) :
    Calls Tryd.prog 21 #[.slice ad ps.length cap] w fun e w' => e = .returned (.bool (decide (2147483647 < bulkL ps))) ∧ Fr [] w w' := by
  go_enter Tryd.func21, Tryd.ntmps21
  go_wp2_with fail
  go_loopw [3, 4] (fun v3 v4 wr => ∃ i : Nat, i ≤ ps.length ∧ v4 = .int .i64 i ∧ v3 = .int .i64 (bulkL (ps.take i) : Nat) ∧ (i < ps.length → bulkL (ps.take i) ≤ 4294967296) ∧ bulkL (ps.take i) ≤ 4294967296 ∧ wr = w) (fun _ v _ => ps.length - (intOf v).toNat)
  case atStart => exact ⟨0, by omega, rfl, rfl, by simp [bulkL], by simp [bulkL], rfl⟩
  case round =>
    obtain ⟨i, hi, rfl, rfl, hb0, hb, rfl⟩ := hrel
    have hle := bulkL_le ps i
    by_cases hl : i < ps.length
    · have l1 : (i : Int) < ps.length := by omega
      obtain ⟨g, o, rfl, hc⟩ := hp i ps[i] (by simp [hl])
      have hj := bulkL_take ps i hl
      have hle2 := bulkL_le ps (i + 1)
      generalize ps[i] = d at hc hj
      by_cases h1 : 2147483647 < d.size
      · have l2 : (2147483647 : Int) < d.size := by omega
        have HB := Lib.hid (show decide (2147483647 < bulkL ps) = true by simp; omega)
        clear hj hle hle2 hb0
        go_wp2_with fail
        go_ret
        exact ⟨by rw [HB.out]; rfl, Fr.refl _ _⟩
      · have l2 : ¬ (2147483647 : Int) < d.size := by omega
        by_cases h2 : 2147483647 < bulkL (ps.take i)
        · have l3 : (2147483647 : Int) < (bulkL (ps.take i) : Nat) := by omega
          have HB := Lib.hid (show decide (2147483647 < bulkL ps) = true by simp; omega)
          clear hj hle hle2 hb0
          go_wp2_with fail
          go_ret
          exact ⟨by rw [HB.out]; rfl, Fr.refl _ _⟩
        · have l3 : ¬ (2147483647 : Int) < (bulkL (ps.take i) : Nat) := by omega
          have w1 : IntKind.i64.wrap (((bulkL (ps.take i) : Nat) : Int) + d.size) = ((bulkL (ps.take i) + d.size : Nat) : Int) := by rw [IntWalk.i64_in _ (by omega)]; omega
          have w2 : IntKind.i64.wrap (((bulkL (ps.take i) + d.size : Nat) : Int) + 1) = ((bulkL (ps.take i) + d.size + 1 : Nat) : Int) := by rw [IntWalk.i64_in _ (by omega)]; omega
          have HJ := Lib.hid (show bulkL (ps.take (i + 1)) = bulkL (ps.take i) + d.size + 1 by omega)
          have HK := Lib.hid (show bulkL (ps.take (i + 1)) ≤ 4294967296 by omega)
          clear hj hle hle2 hb0 h1 h2
          generalize bulkL (ps.take i) = q at l3 w1 w2 HJ
          go_wp2_with fail
          refine ⟨⟨i + 1, by omega, by simp, ?_, fun _ => HK.out, HK.out, by trivial⟩, by simp only [intOf]; omega⟩
          rw [HJ.out]; simp
    · obtain rfl : i = ps.length := by omega
      rw [List.take_of_length_le (Nat.le_refl _)] at hb ⊢
      clear hle hb0
      go_wp2_with fail
      go_ret
      refine ⟨?_, Fr.refl _ _⟩
      show Ending.returned (.bool (decide ((2147483647 : Int) < (bulkL ps : Nat)))) = _
      congr 2
      exact decide_eq_decide.2 (by omega)
end Go.Proofs.YtkagmoaapampgaaDoor
