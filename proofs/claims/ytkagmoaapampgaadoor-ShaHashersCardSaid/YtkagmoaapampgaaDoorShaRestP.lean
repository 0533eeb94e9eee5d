/- A running sum's text read back, in plain Lean. No program here. -/
import Derived.Test.YtkagmoaapampgaaDoorShaB
namespace Go.Proofs.YtkagmoaapampgaaDoor
open Go.RowKit Go.Lib Base
set_option linter.unusedVariables false
set_option linter.unusedSimpArgs false

/-- The number that bytes say, the highest first. -/
def numOf (l : List UInt8) : Nat := l.foldl (fun n b => 256 * n + b.toNat) 0
theorem numOf_snoc (l : List UInt8) (b : UInt8) : numOf (l ++ [b]) = 256 * numOf l + b.toNat := by simp [numOf]
theorem bigL_snoc (v : Nat) : ∀ n, bigL v (n + 1) = bigL (v / 256) n ++ [UInt8.ofNat v]
  | 0 => by simp [bigL]
  | n + 1 => by
    rw [bigL, bigL_snoc v n]
    conv => rhs; rw [bigL]
    rw [Nat.div_div_eq_div_mul, Nat.pow_succ, Nat.mul_comm]
    rfl
theorem u8_last (x : Nat) (b : UInt8) : UInt8.ofNat (256 * x + b.toNat) = b := by
  apply UInt8.toNat_inj.1
  have := b.toNat_lt
  simp
theorem list_snoc {α : Type} : ∀ (l : List α) (n : Nat), l.length = n + 1 → ∃ r x, l = r ++ [x] ∧ r.length = n := by
  intro l n h
  have hne : l ≠ [] := by rintro rfl; simp at h
  exact ⟨l.dropLast, l.getLast hne, (List.dropLast_concat_getLast hne).symm, by simp; omega⟩
theorem bigL_numOf : ∀ (n : Nat) (l : List UInt8), l.length = n → bigL (numOf l) n = l
  | 0, l, h => by obtain rfl := List.eq_nil_of_length_eq_zero h; rfl
  | n + 1, l, h => by
    obtain ⟨r, x, rfl, hr⟩ := list_snoc l n h
    have := x.toNat_lt
    rw [bigL_snoc, numOf_snoc, u8_last, show (256 * numOf r + x.toNat) / 256 = numOf r by omega, bigL_numOf n r hr]
theorem numOf_bigL : ∀ (n v : Nat), v < 256 ^ n → numOf (bigL v n) = v
  | 0, v, h => by simp at h; subst h; rfl
  | n + 1, v, h => by
    rw [bigL_snoc, numOf_snoc, numOf_bigL n (v / 256) (by rw [Nat.pow_succ] at h; exact Nat.div_lt_of_lt_mul (by omega))]
    simp; omega
theorem numOf_lt : ∀ (n : Nat) (l : List UInt8), l.length = n → numOf l < 256 ^ n
  | 0, l, h => by obtain rfl := List.eq_nil_of_length_eq_zero h; simp [numOf]
  | n + 1, l, h => by
    obtain ⟨r, x, rfl, hr⟩ := list_snoc l n h
    have := x.toNat_lt
    have h2 := numOf_lt n r hr
    rw [numOf_snoc, Nat.pow_succ]; omega
theorem be4_nat (a b c d : UInt8) : (be4 a b c d).toNat = 16777216 * a.toNat + 65536 * b.toNat + 256 * c.toNat + d.toNat := by
  have := be4_wd a b c d
  unfold wd at this; omega
theorem bytesW_be4 (a b c d : UInt8) : bytesW (be4 a b c d) = [a, b, c, d] := by
  have ha := a.toNat_lt; have hb := b.toNat_lt; have hc := c.toNat_lt; have hd := d.toNat_lt
  unfold bytesW
  rw [be4_nat]
  simp only [bigL]
  congr 1
  · apply UInt8.toNat_inj.1; simp; omega
  · congr 1
    · apply UInt8.toNat_inj.1; simp; omega
    · congr 1
      · apply UInt8.toNat_inj.1; simp; omega
      · congr 1
        apply UInt8.toNat_inj.1; simp
theorem be4_bytesW (x : UInt32) (r : List UInt8) : wordsB (bytesW x ++ r) = x :: wordsB r := by
  have hx := x.toNat_lt
  unfold bytesW
  simp only [bigL, List.cons_append, List.nil_append, wordsB]
  congr 1
  apply UInt32.toNat_inj.1
  rw [be4_nat]
  simp; omega
theorem wordsB_toldL : ∀ (H : List UInt32), wordsB (toldL H) = H
  | [] => rfl
  | x :: r => by
    have e : toldL (x :: r) = bytesW x ++ toldL r := rfl
    rw [e, be4_bytesW, wordsB_toldL r]
theorem toldL_wordsB : ∀ (n : Nat) (l : List UInt8), l.length = 4 * n → toldL (wordsB l) = l
  | 0, l, h => by obtain rfl := List.eq_nil_of_length_eq_zero (by simpa using h); rfl
  | n + 1, l, h => by
    match l, h with
    | a :: b :: c :: d :: r, h =>
      have e : toldL (wordsB (a :: b :: c :: d :: r)) = bytesW (be4 a b c d) ++ toldL (wordsB r) := rfl
      rw [e, bytesW_be4, toldL_wordsB n r (by simp at h; omega)]; rfl
    | [], h => simp at h
    | [_], h => simp at h; omega
    | [_, _], h => simp at h; omega
    | [_, _, _], h => simp at h; omega
/-- The number in a running sum's text. -/
def numS (s : List UInt8) : Nat := numOf ((s.drop 32).take 8)
/-- A running sum's text read back. -/
def restP (s : List UInt8) : Option (List UInt32 × List UInt8 × Nat) :=
  if s.length < 40 then none
  else if 1099511627776 < numS s ∨ s.length ≠ 40 + numS s % 64 then none
  else if numS s < 64 ∧ wordsB (s.take 32) ≠ firstL then none
  else some (wordsB (s.take 32), s.drop 40, numS s)
theorem stateOf_parts (H : List UInt32) (rest : List UInt8) (n : Nat) (hH : H.length = 8) : (stateOf H rest n).take 32 = toldL H ∧ ((stateOf H rest n).drop 32).take 8 = bigL n 8 ∧ (stateOf H rest n).drop 40 = rest ∧ (stateOf H rest n).length = 40 + rest.length := by
  have l1 : (toldL H).length = 32 := by rw [toldL_len, hH]
  have l2 := bigL_len n 8
  unfold stateOf
  refine ⟨?_, ?_, ?_, by simp; omega⟩
  · rw [List.append_assoc, ← l1, List.take_left]
  · rw [List.append_assoc, ← l1, List.drop_left, List.take_append_of_le_length (by omega), List.take_of_length_le (by omega)]
  · rw [List.drop_left' (by simp; omega)]
theorem restP_state (H : List UInt32) (rest : List UInt8) (n : Nat) (hH : H.length = 8) (hr : n % 64 = rest.length) (hn : n ≤ 1099511627776) (h0 : n < 64 → H = firstL) : restP (stateOf H rest n) = some (H, rest, n) := by
  obtain ⟨p1, p2, p3, p4⟩ := stateOf_parts H rest n hH
  have hnum : numS (stateOf H rest n) = n := by unfold numS; rw [p2]; exact numOf_bigL 8 n (by have : (256 : Nat) ^ 8 = 18446744073709551616 := rfl; omega)
  unfold restP
  rw [hnum, p1, p3, p4, wordsB_toldL]
  rw [if_neg (by omega), if_neg (by omega), if_neg (by rintro ⟨h1, h2⟩; exact h2 (h0 h1))]
theorem restP_back (s : List UInt8) (H : List UInt32) (rest : List UInt8) (n : Nat) (h : restP s = some (H, rest, n)) :
    stateOf H rest n = s ∧ H.length = 8 ∧ n % 64 = rest.length ∧ n ≤ 1099511627776 ∧ (n < 64 → H = firstL) := by
  unfold restP at h
  by_cases h1 : s.length < 40
  · rw [if_pos h1] at h; cases h
  rw [if_neg h1] at h
  by_cases h2 : 1099511627776 < numS s ∨ s.length ≠ 40 + numS s % 64
  · rw [if_pos h2] at h; cases h
  rw [if_neg h2] at h
  by_cases h3 : numS s < 64 ∧ wordsB (s.take 32) ≠ firstL
  · rw [if_pos h3] at h; cases h
  rw [if_neg h3] at h
  injection h with h
  injection h with e1 h
  injection h with e2 e3
  subst e1 e2 e3
  refine ⟨?_, wordsB_len 8 _ (by simp; omega), by simp; omega, by omega, fun h => ?_⟩
  · unfold stateOf
    rw [toldL_wordsB 8 _ (by simp; omega)]
    unfold numS
    rw [bigL_numOf 8 _ (by simp; omega)]
    rw [List.append_assoc]
    conv => rhs; rw [← List.take_append_drop 32 s]
    congr 1
    conv => rhs; rw [← List.take_append_drop 8 (s.drop 32)]
    rw [List.drop_drop]
  · exact Classical.byContradiction fun hne => h3 ⟨h, hne⟩
/-- A text that is cut, or longer, is refused. -/
theorem restP_cut (s : List UInt8) (x : List UInt32 × List UInt8 × Nat) (h : restP s = some x) : restP (s.take (s.length - 1)) = none ∧ ∀ b, restP (s ++ [b]) = none := by
  obtain ⟨H, rest, n⟩ := x
  obtain ⟨hs, hH, hr, hn, _⟩ := restP_back s H rest n h
  obtain ⟨p1, p2, p3, p4⟩ := stateOf_parts H rest n hH
  have hnum : numS s = n := by
    unfold numS; rw [← hs, p2]; exact numOf_bigL 8 n (by have : (256 : Nat) ^ 8 = 18446744073709551616 := rfl; omega)
  rw [hs] at p4
  constructor
  · unfold restP
    by_cases h1 : (s.take (s.length - 1)).length < 40
    · rw [if_pos h1]
    · rw [if_neg h1, if_pos]
      right
      have e : numS (s.take (s.length - 1)) = numS s := by
        unfold numS
        congr 1
        rw [List.drop_take, List.take_take]
        congr 1
        simp at h1; omega
      rw [e, hnum]; simp; omega
  · intro b
    have e : numS (s ++ [b]) = numS s := by
      unfold numS
      rw [List.drop_append_of_le_length (by omega), List.take_append_of_le_length (by simp; omega)]
    unfold restP
    rw [if_neg (by simp; omega), if_pos]
    right
    rw [e, hnum]; simp; omega
end Go.Proofs.YtkagmoaapampgaaDoor
