/- A stream laid over a text. No program here. -/
import Derived.Test.YtichgiecohhmgaaDoorBlock
namespace Go.Proofs.YtichgiecohhmgaaDoor
open Base
set_option linter.unusedVariables false
set_option linter.unusedSimpArgs false

/-- Byte i of the stream that begins at block c. -/
def ksAt (K N : List UInt8) (c : UInt32) (i : Nat) : UInt8 := (blk K N (c + UInt32.ofNat (i / 64))).getD (i % 64) 0
theorem ksAt_block (K N : List UInt8) (c : UInt32) (j i : Nat) (hi : i < 64) : ksAt K N c (64 * j + i) = (blk K N (c + UInt32.ofNat j)).getD i 0 := by
  unfold ksAt
  rw [show (64 * j + i) / 64 = j by omega, show (64 * j + i) % 64 = i by omega]
/-- The first m bytes turned. -/
def xorUp (f : Nat → UInt8) (d : List UInt8) (m : Nat) : List UInt8 := d.mapIdx fun i x => if i < m then x ^^^ f i else x
def xorAll (f : Nat → UInt8) (d : List UInt8) : List UInt8 := d.mapIdx fun i x => x ^^^ f i
variable (f : Nat → UInt8) (d : List UInt8) (m i : Nat)
theorem xorUp_zero : xorUp f d 0 = d := by
  apply List.ext_getElem?; intro i
  simp [xorUp, List.getElem?_mapIdx]
theorem xorUp_len : (xorUp f d m).length = d.length := by simp [xorUp]
theorem xorAll_len : (xorAll f d).length = d.length := by simp [xorAll]
theorem xorUp_get (h : m < d.length) : (xorUp f d m).getD m 0 = d.getD m 0 := by
  simp [xorUp, List.getD, h]
theorem xorUp_set (h : m < d.length) : (xorUp f d m).set m (d.getD m 0 ^^^ f m) = xorUp f d (m + 1) := by
  apply List.ext_getElem?; intro i
  rw [List.getElem?_set]
  by_cases e : m = i
  · subst e
    simp [xorUp, List.getElem?_mapIdx, List.getD, h]
  · rw [if_neg e]
    simp only [xorUp, List.getElem?_mapIdx]
    by_cases h1 : i < m
    · simp [h1, show i < m + 1 by omega]
    · simp [h1, show ¬ i < m + 1 by omega]
theorem xorUp_past (h : d.length ≤ m) : xorUp f d m = xorAll f d := by
  apply List.ext_getElem?; intro i
  simp only [xorUp, xorAll, List.getElem?_mapIdx]
  by_cases h1 : i < d.length
  · simp [h1, show i < m by omega]
  · simp [List.getElem?_eq_none (show d.length ≤ i by omega)]
theorem xorUp_past' (h : d.length ≤ m) : xorUp f d (m + 1) = xorUp f d m := by
  rw [xorUp_past f d m h, xorUp_past f d (m + 1) (by omega)]
/-- The other way round: zeros that are filled. -/
def fillUp (l : List UInt8) (m : Nat) : List UInt8 := l.take m ++ zerosB (l.length - m)
theorem fillUp_zero (l : List UInt8) : fillUp l 0 = zerosB l.length := by simp [fillUp]
theorem fillUp_len (l : List UInt8) (h : m ≤ l.length) : (fillUp l m).length = l.length := by simp [fillUp, zerosB]; omega
theorem fillUp_set (l : List UInt8) (h : m < l.length) : (fillUp l m).set m (l.getD m 0) = fillUp l (m + 1) := by
  have e : (l.take m).length = m := by simp; omega
  unfold fillUp
  rw [List.set_append_right _ _ (by omega), e, Nat.sub_self, List.take_add_one, List.getElem?_eq_getElem h]
  rw [show l.length - m = (l.length - (m + 1)) + 1 by omega]
  simp only [zerosB, List.replicate_succ, List.set_cons_zero, List.getD, List.getElem?_eq_getElem h, Option.getD_some, Option.toList, List.append_assoc, List.cons_append, List.nil_append]
theorem fillUp_all (l : List UInt8) : fillUp l l.length = l := by simp [fillUp, zerosB]
theorem xorAll_get (h : m < d.length) : (xorAll f d).getD m 0 = d.getD m 0 ^^^ f m := by
  simp [xorAll, List.getD, h]
theorem xorAll_back : xorAll f (xorAll f d) = d := by
  apply List.ext_getElem?; intro i
  simp only [xorAll, List.getElem?_mapIdx, Option.map_map]
  cases d[i]? with
  | none => rfl
  | some x => simp [UInt8.xor_assoc]
end Go.Proofs.YtichgiecohhmgaaDoor
