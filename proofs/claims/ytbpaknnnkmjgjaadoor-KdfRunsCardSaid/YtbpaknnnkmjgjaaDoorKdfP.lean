/- HMAC in plain Lean. No program here. -/
import Derived.Test.YtbpaknnnkmjgjaaDoorShaSums
namespace Go.Proofs.YtbpaknnnkmjgjaaDoor
open Go.RowKit Go.Lib Base
set_option linter.unusedVariables false
set_option linter.unusedSimpArgs false

/-- A key of 64 bytes. -/
def shortK (k : List UInt8) : List UInt8 := if 64 < k.length then shaL k else k
theorem shortK_len (k : List UInt8) : (shortK k).length ≤ 64 := by
  unfold shortK
  by_cases h : 64 < k.length
  · rw [if_pos h, shaL_len]; omega
  · rw [if_neg h]; omega
def keyOf (k : List UInt8) : List UInt8 := shortK k ++ zerosB (64 - (shortK k).length)
theorem keyOf_len (k : List UInt8) : (keyOf k).length = 64 := by
  have := shortK_len k
  simp [keyOf, zerosB]; omega
def innerL (k : List UInt8) : List UInt8 := (keyOf k).map fun x => x ^^^ 54
def outerL (k : List UInt8) : List UInt8 := (keyOf k).map fun x => x ^^^ 92
theorem innerL_len (k : List UInt8) : (innerL k).length = 64 := by simp [innerL, keyOf_len]
theorem outerL_len (k : List UInt8) : (outerL k).length = 64 := by simp [outerL, keyOf_len]
/-- The keyed sum. -/
def hmacL (k t : List UInt8) : List UInt8 := shaL (outerL k ++ shaL (innerL k ++ t))
theorem hmacL_len (k t : List UInt8) : (hmacL k t).length = 32 := shaL_len _
/-- Zeros behind a short key change nothing. -/
theorem keyOf_zeros (k : List UInt8) (n : Nat) (h : k.length + n ≤ 64) : keyOf (k ++ zerosB n) = keyOf k := by
  have h1 : shortK (k ++ zerosB n) = k ++ zerosB n := by unfold shortK; rw [if_neg (by simp [zerosB]; omega)]
  have h2 : shortK k = k := by unfold shortK; rw [if_neg (by omega)]
  unfold keyOf
  rw [h1, h2, List.append_assoc]
  congr 1
  simp [zerosB, List.replicate_append_replicate]; omega
/-- A long key's sum is the same key. -/
theorem keyOf_sum (k : List UInt8) (h : 64 < k.length) : keyOf (shaL k) = keyOf k := by
  have h1 : shortK (shaL k) = shaL k := by unfold shortK; rw [if_neg (by rw [shaL_len]; omega)]
  have h2 : shortK k = shaL k := by unfold shortK; rw [if_pos h]
  unfold keyOf
  rw [h1, h2]
theorem hmacL_zeros (k t : List UInt8) (n : Nat) (h : k.length + n ≤ 64) : hmacL (k ++ zerosB n) t = hmacL k t := by
  unfold hmacL outerL innerL; rw [keyOf_zeros k n h]
theorem hmacL_sum (k t : List UInt8) (h : 64 < k.length) : hmacL (shaL k) t = hmacL k t := by
  unfold hmacL outerL innerL; rw [keyOf_sum k h]
/-- The first i bytes xored. -/
def xorTo (K : List UInt8) (c : UInt8) (i : Nat) : List UInt8 := (K.map fun x => x ^^^ c).take i ++ K.drop i
theorem xorTo_len (K : List UInt8) (c : UInt8) (i : Nat) (h : i ≤ K.length) : (xorTo K c i).length = K.length := by simp [xorTo]; omega
theorem xorTo_get (K : List UInt8) (c : UInt8) (i : Nat) (h : i < K.length) : (xorTo K c i).getD i 0 = K.getD i 0 := by
  unfold xorTo
  rw [List.getD, List.getElem?_append_right (by simp; omega), List.length_take, List.length_map, Nat.min_eq_left (by omega), Nat.sub_self, List.getElem?_drop, Nat.add_zero]; rfl
theorem xorTo_set (K : List UInt8) (c : UInt8) (i : Nat) (h : i < K.length) : (xorTo K c i).set i (K.getD i 0 ^^^ c) = xorTo K c (i + 1) := by
  have l1 : ((K.map fun x => x ^^^ c).take i).length = i := by simp; omega
  unfold xorTo
  rw [List.set_append_right _ _ (by omega), l1, Nat.sub_self, List.drop_eq_getElem_cons h, List.set_cons_zero, List.take_add_one, List.getElem?_map, List.getElem?_eq_getElem h, List.append_assoc]
  simp [List.getD, h]
theorem xorTo_zero (K : List UInt8) (c : UInt8) : xorTo K c 0 = K := by simp [xorTo]
theorem xorTo_all (K : List UInt8) (c : UInt8) : xorTo K c K.length = K.map fun x => x ^^^ c := by simp [xorTo, List.take_of_length_le]
end Go.Proofs.YtbpaknnnkmjgjaaDoor
