/- SHA-256 in plain Lean: whole texts: blocks one behind the other, the padding, the sum. No program here. -/
import Derived.Test.YtkagmoaapampgaaDoorShaW
namespace Go.Proofs.YtkagmoaapampgaaDoor
open Go.RowKit Go.Lib Base
set_option linter.unusedVariables false
set_option linter.unusedSimpArgs false

/-- The words behind the first n blocks of s. -/
def blocksL (H : List UInt32) (s : List UInt8) : Nat → List UInt32
  | 0 => H
  | n + 1 => mixL (blocksL H s n) (wordsB ((s.drop (64 * n)).take 64))
theorem blocksL_len (H : List UInt32) (s : List UInt8) (h : H.length = 8) : ∀ n, (blocksL H s n).length = 8
  | 0 => h
  | n + 1 => mixL_len _ _ (blocksL_len H s h n)
theorem blocksL_app (H : List UInt32) (a b : List UInt8) : ∀ n, 64 * n ≤ a.length → blocksL H (a ++ b) n = blocksL H a n
  | 0, _ => rfl
  | n + 1, h => by
    rw [blocksL, blocksL, blocksL_app H a b n (by omega), List.drop_append_of_le_length (by omega), List.take_append_of_le_length (by simp; omega)]
theorem blocksL_add (H : List UInt32) (s : List UInt8) (m : Nat) : ∀ n, blocksL H s (m + n) = blocksL (blocksL H s m) (s.drop (64 * m)) n
  | 0 => rfl
  | n + 1 => by
    rw [show m + (n + 1) = (m + n) + 1 by omega, blocksL, blocksL, blocksL_add H s m n, List.drop_drop, show 64 * m + 64 * n = 64 * (m + n) by omega]
/-- The words behind all whole blocks, and the bytes that fill no block. -/
def wordsOf (H : List UInt32) (s : List UInt8) : List UInt32 := blocksL H s (s.length / 64)
def restOf (s : List UInt8) : List UInt8 := s.drop (64 * (s.length / 64))
theorem wordsOf_len (H : List UInt32) (s : List UInt8) (h : H.length = 8) : (wordsOf H s).length = 8 := blocksL_len H s h _
theorem restOf_len (s : List UInt8) : (restOf s).length = s.length % 64 := by simp [restOf]; omega
theorem restOf_lt (s : List UInt8) : (restOf s).length < 64 := by rw [restOf_len]; omega
/-- What was taken, and what comes: it does not matter whether it comes at once. -/
theorem wordsOf_app (H : List UInt32) (a b : List UInt8) : wordsOf (wordsOf H a) (restOf a ++ b) = wordsOf H (a ++ b) := by
  unfold wordsOf
  have e : (a ++ b).length / 64 = a.length / 64 + (restOf a ++ b).length / 64 := by
    rw [List.length_append, List.length_append, restOf_len]; omega
  have d : restOf a ++ b = (a ++ b).drop (64 * (a.length / 64)) := by
    rw [List.drop_append_of_le_length (by omega)]; rfl
  rw [e, blocksL_add, blocksL_app H a b _ (by omega), d]
theorem restOf_app (a b : List UInt8) : restOf (restOf a ++ b) = restOf (a ++ b) := by
  have d : restOf a ++ b = (a ++ b).drop (64 * (a.length / 64)) := by
    rw [List.drop_append_of_le_length (by omega)]; rfl
  unfold restOf at *
  rw [d, List.drop_drop]
  congr 1
  simp; omega
theorem restOf_short (s : List UInt8) (h : s.length < 64) : restOf s = s := by
  unfold restOf; rw [Nat.div_eq_of_lt h]; rfl
theorem wordsOf_short (H : List UInt32) (s : List UInt8) (h : s.length < 64) : wordsOf H s = H := by
  unfold wordsOf; rw [Nat.div_eq_of_lt h]; rfl

/-- The lowest n bytes of v, the highest first. -/
def bigL (v : Nat) : Nat → List UInt8
  | 0 => []
  | n + 1 => UInt8.ofNat (v / 256 ^ n) :: bigL v n
theorem bigL_len (v : Nat) : ∀ n, (bigL v n).length = n
  | 0 => rfl
  | n + 1 => by simp [bigL, bigL_len v n]
theorem bigL_get (v : Nat) : ∀ n j, j < n → (bigL v n)[j]? = some (UInt8.ofNat (v / 256 ^ (n - 1 - j)))
  | 0, _, h => by omega
  | n + 1, 0, _ => by simp [bigL]
  | n + 1, j + 1, h => by
    rw [bigL, List.getElem?_cons_succ, bigL_get v n j (by omega)]
    congr 4; omega
theorem bigL_take (v n i : Nat) (h : i < n) : (bigL v n).take (n - i) = (bigL v n).take (n - (i + 1)) ++ [UInt8.ofNat (v / 256 ^ i)] := by
  rw [show n - i = (n - (i + 1)) + 1 by omega, List.take_add_one, bigL_get v n _ (by omega), show n - 1 - (n - (i + 1)) = i by omega]; rfl
/-- The highest byte first. -/
def bytesW (x : UInt32) : List UInt8 := bigL x.toNat 4
/-- Eight words as 32 bytes. -/
def toldL (H : List UInt32) : List UInt8 := H.flatMap bytesW
theorem toldL_len : ∀ (H : List UInt32), (toldL H).length = 4 * H.length
  | [] => rfl
  | x :: r => by have := toldL_len r; simp [toldL, bytesW, bigL_len] at this ⊢; omega
/-- The zeros of the padding behind n bytes. -/
def zerosN (n : Nat) : Nat := (119 - n % 64) % 64
def padL (n : Nat) : List UInt8 := 128 :: (zerosB (zerosN n) ++ bigL (8 * n) 8)
theorem padL_len (n : Nat) : (n + (padL n).length) % 64 = 0 := by
  simp [padL, zerosB, zerosN, bigL_len]; omega
/-- The sum: H: the words behind the n - rest.length bytes ahead. -/
def sumOf (H : List UInt32) (rest : List UInt8) (n : Nat) : List UInt8 := toldL (wordsOf H (rest ++ padL n))
theorem sumOf_len (H : List UInt32) (rest : List UInt8) (n : Nat) (h : H.length = 8) : (sumOf H rest n).length = 32 := by
  rw [sumOf, toldL_len, wordsOf_len _ _ h]
/-- SHA-256. -/
def shaL (s : List UInt8) : List UInt8 := sumOf firstL s s.length
theorem sumOf_rest (H : List UInt32) (s : List UInt8) (n : Nat) : sumOf (wordsOf H s) (restOf s) n = sumOf H s n := by
  unfold sumOf; rw [wordsOf_app]
theorem shaL_len (s : List UInt8) : (shaL s).length = 32 := sumOf_len _ _ _ rfl
/-- A running sum told in bytes. -/
def stateOf (H : List UInt32) (rest : List UInt8) (n : Nat) : List UInt8 := toldL H ++ bigL n 8 ++ rest

/-- The bytes that wait for the rest of their block, behind m more (D: what begins at the block). -/
theorem tail_step (s tail : List UInt8) (p m : Nat) (hp : p < s.length) (hm : m ≤ 64 - p % 64) (hm2 : m ≤ s.length - p) (ht : tail.length = 64) (h : tail.take (p % 64) = (s.drop (64 * (p / 64))).take (p % 64)) :
    (tail.take (p % 64) ++ (s.drop p).take m ++ tail.drop (p % 64 + m)).length = 64 ∧
    (tail.take (p % 64) ++ (s.drop p).take m ++ tail.drop (p % 64 + m)).take (p % 64 + m) = (s.drop (64 * (p / 64))).take (p % 64 + m) := by
  have l1 : (tail.take (p % 64)).length = p % 64 := by simp; omega
  have l2 : ((s.drop p).take m).length = m := by simp; omega
  refine ⟨by simp; omega, ?_⟩
  have l3 : (tail.take (p % 64) ++ (s.drop p).take m).length = p % 64 + m := by rw [List.length_append, l1, l2]
  rw [← l3, List.take_left, l3, h, List.take_add, List.drop_drop, show 64 * (p / 64) + p % 64 = p by omega]
theorem tail_full (H : List UInt32) (s tail : List UInt8) (k : Nat) (ht : tail.length = 64) (h : tail.take 64 = (s.drop (64 * k)).take 64) : mixL (blocksL H s k) (wordsB tail) = blocksL H s (k + 1) := by
  rw [blocksL, ← h, List.take_of_length_le (by omega)]
theorem tail_end (s tail : List UInt8) (h : tail.take (s.length % 64) = (s.drop (64 * (s.length / 64))).take (s.length % 64)) : tail.take (s.length % 64) = restOf s := by
  rw [h, List.take_of_length_le (by simp; omega)]; rfl
end Go.Proofs.YtkagmoaapampgaaDoor
