/- PBKDF2 in plain Lean. No program here. -/
import Derived.Test.YtbpaknnnkmjgjaaDoorKdfExpP
namespace Go.Proofs.YtbpaknnnkmjgjaaDoor
open Go.RowKit Go.Lib Base
set_option linter.unusedVariables false
set_option linter.unusedSimpArgs false

def xorL (a b : List UInt8) : List UInt8 := List.zipWith (fun x y => x ^^^ y) a b
theorem xorL_len (a b : List UInt8) (h : a.length = b.length) : (xorL a b).length = a.length := by simp [xorL]; omega
theorem xorL_get (a b : List UInt8) (i : Nat) (h1 : i < a.length) (h2 : i < b.length) : (xorL a b).getD i 0 = a.getD i 0 ^^^ b.getD i 0 := by
  simp [xorL, List.getD, List.getElem?_zipWith, h1, h2]
/-- The chain: what is summed next, r sums behind the start. -/
def pbU (K s : List UInt8) : Nat → List UInt8
  | 0 => s
  | r + 1 => hmacL K (pbU K s r)
/-- The chain's sums xored. -/
def pbF (K s : List UInt8) : Nat → List UInt8
  | 0 => zerosB 32
  | r + 1 => xorL (pbF K s r) (pbU K s (r + 1))
theorem pbU_len (K s : List UInt8) (r : Nat) : (pbU K s (r + 1)).length = 32 := hmacL_len _ _
theorem pbF_len (K s : List UInt8) : ∀ r, (pbF K s r).length = 32
  | 0 => by simp [pbF, zerosB]
  | r + 1 => by
    have h := pbF_len K s r
    rw [pbF, xorL_len _ _ (by rw [h, pbU_len]), h]
theorem xorL_zeros : ∀ (n : Nat) (b : List UInt8), b.length = n → xorL (zerosB n) b = b
  | 0, b, h => by rw [List.eq_nil_of_length_eq_zero h]; rfl
  | n + 1, [], h => by cases h
  | n + 1, x :: r, h => by
    have ih := xorL_zeros n r (by simpa using h)
    unfold xorL zerosB at ih ⊢
    rw [List.replicate_succ, List.zipWith_cons_cons, ih, UInt8.zero_xor]
theorem pbF_one (K s : List UInt8) : pbF K s 1 = pbU K s 1 := xorL_zeros 32 _ (pbU_len K s 0)
/-- The pieces up to the i-th. -/
def pbS (S : List UInt8) (i : Nat) : List UInt8 := S ++ [0, 0, 0, UInt8.ofNat i]
def pbA (K S : List UInt8) (rounds : Nat) : Nat → List UInt8
  | 0 => []
  | i + 1 => pbA K S rounds i ++ pbF K (pbS S (i + 1)) rounds
theorem pbA_len (K S : List UInt8) (rounds : Nat) : ∀ i, (pbA K S rounds i).length = 32 * i
  | 0 => rfl
  | i + 1 => by
    have h := pbA_len K S rounds i
    have h2 := pbF_len K (pbS S (i + 1)) rounds
    simp only [pbA, List.length_append]; omega
def pbL (K S : List UInt8) (rounds n : Nat) : List UInt8 := (pbA K S rounds (piecesN n)).take n
theorem pbL_len (K S : List UInt8) (rounds n : Nat) : (pbL K S rounds n).length = n := by
  unfold pbL
  rw [List.length_take, pbA_len]
  unfold piecesN; omega
/-- The first k bytes xored. -/
def mixTo (F U : List UInt8) (k : Nat) : List UInt8 := (xorL F U).take k ++ F.drop k
theorem mixTo_len (F U : List UInt8) (k : Nat) (h : F.length = U.length) (hk : k ≤ F.length) : (mixTo F U k).length = F.length := by
  have := xorL_len F U h
  simp [mixTo]; omega
theorem mixTo_get (F U : List UInt8) (k : Nat) (h : F.length = U.length) (hk : k < F.length) : (mixTo F U k).getD k 0 = F.getD k 0 := by
  have := xorL_len F U h
  unfold mixTo
  rw [List.getD, List.getElem?_append_right (by simp; omega), List.length_take, Nat.min_eq_left (by omega), Nat.sub_self, List.getElem?_drop, Nat.add_zero]; rfl
theorem mixTo_set (F U : List UInt8) (k : Nat) (h : F.length = U.length) (hk : k < F.length) : (mixTo F U k).set k (F.getD k 0 ^^^ U.getD k 0) = mixTo F U (k + 1) := by
  have hx := xorL_len F U h
  have hg := xorL_get F U k hk (by omega)
  have l1 : ((xorL F U).take k).length = k := by simp; omega
  have e : (xorL F U)[k]'(by omega) = F.getD k 0 ^^^ U.getD k 0 := by rw [← hg, List.getD, List.getElem?_eq_getElem (by omega)]; rfl
  unfold mixTo
  rw [List.set_append_right _ _ (by omega), l1, Nat.sub_self, List.drop_eq_getElem_cons hk, List.set_cons_zero, List.take_add_one, List.getElem?_eq_getElem (by omega), e, List.append_assoc]
  simp
theorem mixTo_zero (F U : List UInt8) : mixTo F U 0 = F := by simp [mixTo]
theorem mixTo_all (F U : List UInt8) (h : F.length = U.length) : mixTo F U F.length = xorL F U := by
  have := xorL_len F U h
  simp [mixTo, List.take_of_length_le (Nat.le_of_eq this)]
end Go.Proofs.YtbpaknnnkmjgjaaDoor
