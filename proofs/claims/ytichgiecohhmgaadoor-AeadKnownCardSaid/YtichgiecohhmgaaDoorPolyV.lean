/- Poly1305 of the program as whole numbers. No program here. Poly1305 of the program as whole numbers: carrying, a block, the number below p. No program here. Poly1305 of the program as whole numbers: the number below p, the bytes, the tag. No program here. Poly1305 of the program as whole numbers: the tag. No program here. -/
import Derived.Test.YtichgiecohhmgaaDoorPolyP
namespace Go.Proofs.YtichgiecohhmgaaDoor
open Go.RowKit Go.Lib Base
set_option linter.unusedVariables false
set_option linter.unusedSimpArgs false

/-- The number of bytes, the lowest first. -/
def leN : List UInt8 → Nat
  | [] => 0
  | x :: r => x.toNat + 256 * leN r
theorem leN_app (a b : List UInt8) : leN (a ++ b) = leN a + 256 ^ a.length * leN b := by
  induction a with
  | nil => simp [leN]
  | cons x r ih => simp only [List.cons_append, leN, List.length_cons, ih]; grind
theorem leN_lt (a : List UInt8) : leN a < 256 ^ a.length := by
  induction a with
  | nil => simp [leN]
  | cons x r ih =>
    have hx := x.toNat_lt
    simp only [leN, List.length_cons, Nat.pow_succ]
    omega
theorem leN_zeros (n : Nat) : leN (List.replicate n 0) = 0 := by
  induction n with
  | zero => rfl
  | succ n ih => rw [List.replicate_succ, leN, ih]; rfl
theorem wordUp_nat (b : List UInt8) : ∀ i, i ≤ 8 → i ≤ b.length → (wordUp b i).toNat = leN (b.take i)
  | 0, _, _ => rfl
  | i + 1, h8, hl => by
    have ih := wordUp_nat b i (by omega) (by omega)
    have hlt := leN_lt (b.take i)
    rw [List.length_take, Nat.min_eq_left (by omega)] at hlt
    rw [wordUp, UInt64.toNat_or, UInt64.toNat_shiftLeft, UInt64.toNat_ofNat_of_lt' (by show 8 * i < 18446744073709551616; omega), Nat.mod_eq_of_lt (show 8 * i < 64 by omega), ih, List.take_add_one, List.getElem?_eq_getElem (by omega), leN_app]
    have hx := (b.getD i 0).toNat_lt
    have e1 : (b.getD i 0).toUInt64.toNat = (b.getD i 0).toNat := by simp
    have e2 : (256 : Nat) ^ i = 2 ^ (8 * i) := by rw [show (256 : Nat) = 2 ^ 8 from rfl, ← Nat.pow_mul]
    have hb : (b.getD i 0).toNat * 2 ^ (8 * i) < 18446744073709551616 := by
      have h1 : (b.getD i 0).toNat * 2 ^ (8 * i) < 256 * 2 ^ (8 * i) := Nat.mul_lt_mul_of_pos_right hx (Nat.pow_pos (by omega))
      have h2 : 256 * 2 ^ (8 * i) ≤ 256 * 2 ^ 56 := Nat.mul_le_mul_left _ (Nat.pow_le_pow_right (by omega) (by omega))
      omega
    rw [e1, Nat.shiftLeft_eq, Nat.mod_eq_of_lt hb, ← Nat.shiftLeft_eq, or_add _ _ _ (by rw [← e2]; exact hlt)]
    rw [List.length_take, Nat.min_eq_left (by omega), e2]
    have e3 : b.getD i 0 = b[i]'(by omega) := by simp [List.getD, show i < b.length by omega]
    rw [e3]
    simp only [Option.toList, leN]
    grind
theorem word8_nat (b : List UInt8) (h : b.length = 8) : (word8 b).toNat = leN b := by
  rw [word8, wordUp_nat b 8 (by omega) (by omega), List.take_of_length_le (by omega)]
/-- The number that five limbs say. -/
def V5 : List UInt64 → Nat
  | [a, b, c, d, e] => a.toNat + 67108864 * b.toNat + 4503599627370496 * c.toNat + 302231454903657293676544 * d.toNat + 20282409603651670423947251286016 * e.toNat
  | _ => 0
def Small (l : List UInt64) (k : Nat) : Prop := ∀ x ∈ l, x.toNat < k
theorem small5 {a b c d e : UInt64} {k : Nat} : Small [a, b, c, d, e] k ↔ (a.toNat < k ∧ b.toNat < k ∧ c.toNat < k ∧ d.toNat < k ∧ e.toNat < k) := by simp [Small]
theorem mask_nat (x : UInt64) : (x &&& 67108863).toNat = x.toNat % 67108864 := by
  rw [UInt64.toNat_and]
  show x.toNat &&& (2 ^ 26 - 1) = _
  rw [Nat.and_two_pow_sub_one_eq_mod]
theorem shr_nat (x n : UInt64) (k : Nat) (hn : n.toNat = k) (hk : k < 64) : (x >>> n).toNat = x.toNat / 2 ^ k := by
  rw [UInt64.toNat_shiftRight, hn, Nat.mod_eq_of_lt hk, Nat.shiftRight_eq_div_pow]
theorem shl_nat (x n : UInt64) (k : Nat) (hn : n.toNat = k) (hk : k < 64) : (x <<< n).toNat = x.toNat * 2 ^ k % 18446744073709551616 := by
  rw [UInt64.toNat_shiftLeft, hn, Nat.mod_eq_of_lt hk, Nat.shiftLeft_eq]
theorem or_low (x y n : Nat) (h : x < 2 ^ n) (hy : 2 ^ n ∣ y) : x ||| y = x + y := by
  obtain ⟨z, rfl⟩ := hy
  rw [Nat.mul_comm, ← Nat.shiftLeft_eq, or_add _ _ _ h, Nat.shiftLeft_eq]
theorem loadL_val (b : List UInt8) (h : b.length = 16) (above : UInt64) (ha : above.toNat ≤ 1) : V5 (loadL b above) = leN b + above.toNat * 340282366920938463463374607431768211456 ∧ Small (loadL b above) 67108864 := by
  have h1 := word8_nat (b.take 8) (by simp; omega)
  have h2 := word8_nat (b.drop 8) (by simp; omega)
  have hb : leN b = leN (b.take 8) + 18446744073709551616 * leN (b.drop 8) := by
    conv => lhs; rw [← List.take_append_drop 8 b, leN_app]
    rw [List.length_take, Nat.min_eq_left (by omega)]
  rw [hb, ← h1, ← h2]
  have l1 := (word8 (b.take 8)).toNat_lt
  have l2 := (word8 (b.drop 8)).toNat_lt
  unfold loadL
  generalize word8 (b.take 8) = L at *
  generalize word8 (b.drop 8) = H at *
  have e1 : (L >>> 26).toNat = L.toNat / 67108864 := shr_nat L 26 26 rfl (by omega)
  have e2 : (L >>> 52).toNat = L.toNat / 4503599627370496 := shr_nat L 52 52 rfl (by omega)
  have e3 : (H <<< 12).toNat = H.toNat * 4096 % 18446744073709551616 := shl_nat H 12 12 rfl (by omega)
  have e4 : (H >>> 14).toNat = H.toNat / 16384 := shr_nat H 14 14 rfl (by omega)
  have e5 : (H >>> 40).toNat = H.toNat / 1099511627776 := shr_nat H 40 40 rfl (by omega)
  have e6 : (above <<< 24).toNat = above.toNat * 16777216 % 18446744073709551616 := shl_nat above 24 24 rfl (by omega)
  have o1 : (L >>> 52 ||| H <<< 12).toNat = L.toNat / 4503599627370496 + H.toNat * 4096 % 18446744073709551616 := by
    rw [UInt64.toNat_or, e2, e3, or_low _ _ 12 (by omega) (by show 4096 ∣ _; omega)]
  have o2 : (H >>> 40 ||| above <<< 24).toNat = H.toNat / 1099511627776 + above.toNat * 16777216 := by
    rw [UInt64.toNat_or, e5, e6, or_low _ _ 24 (by omega) (by show 16777216 ∣ _; omega)]
    omega
  rw [small5]
  simp only [V5, mask_nat, e1, e4, o1, o2]
  omega
end Go.Proofs.YtichgiecohhmgaaDoor
namespace Go.Proofs.YtichgiecohhmgaaDoor
open Go.RowKit Go.Lib Base
set_option linter.unusedVariables false
set_option linter.unusedSimpArgs false

theorem five_of' (l : List UInt64) (h : l.length = 5) : ∃ a b c d e, l = [a, b, c, d, e] := by
  match l, h with
  | [a, b, c, d, e], _ => exact ⟨a, b, c, d, e, rfl⟩
theorem add_nat (x y : UInt64) (h : x.toNat + y.toNat < 18446744073709551616) : (x + y).toNat = x.toNat + y.toNat := by
  rw [UInt64.toNat_add]; exact Nat.mod_eq_of_lt h
theorem mul_nat (x y : UInt64) (h : x.toNat * y.toNat < 18446744073709551616) : (x * y).toNat = x.toNat * y.toNat := by
  rw [UInt64.toNat_mul]; exact Nat.mod_eq_of_lt h
theorem shr26 (x : UInt64) : (x >>> 26).toNat = x.toNat / 67108864 := shr_nat x 26 26 rfl (by omega)
/-- Carrying over five limbs, as whole numbers. -/
theorem carryUp_five (a b c d e : UInt64) (k : Nat) (hk : k ≤ 4611686018427387904) (ha : a.toNat < k) (hb : b.toNat < k) (hc : c.toNat < k) (hd : d.toNat < k) (he : e.toNat < k) :
    ∃ a' b' c' d' e' : UInt64, carryUp [a, b, c, d, e] 4 = [a', b', c', d', e'] ∧ a'.toNat = a.toNat % 67108864 ∧ b'.toNat = (b.toNat + a.toNat / 67108864) % 67108864 ∧ c'.toNat = (c.toNat + (b.toNat + a.toNat / 67108864) / 67108864) % 67108864 ∧
      d'.toNat = (d.toNat + (c.toNat + (b.toNat + a.toNat / 67108864) / 67108864) / 67108864) % 67108864 ∧ e'.toNat = e.toNat + (d.toNat + (c.toNat + (b.toNat + a.toNat / 67108864) / 67108864) / 67108864) / 67108864 := by
  have b1 : (b + a >>> 26).toNat = b.toNat + a.toNat / 67108864 := by rw [add_nat _ _ (by rw [shr26]; omega), shr26]
  have c1 : (c + (b + a >>> 26) >>> 26).toNat = c.toNat + (b.toNat + a.toNat / 67108864) / 67108864 := by rw [add_nat _ _ (by rw [shr26, b1]; omega), shr26, b1]
  have d1 : (d + (c + (b + a >>> 26) >>> 26) >>> 26).toNat = d.toNat + (c.toNat + (b.toNat + a.toNat / 67108864) / 67108864) / 67108864 := by rw [add_nat _ _ (by rw [shr26, c1]; omega), shr26, c1]
  have e1 : (e + (d + (c + (b + a >>> 26) >>> 26) >>> 26) >>> 26).toNat = e.toNat + (d.toNat + (c.toNat + (b.toNat + a.toNat / 67108864) / 67108864) / 67108864) / 67108864 := by rw [add_nat _ _ (by rw [shr26, d1]; omega), shr26, d1]
  refine ⟨a &&& 67108863, (b + a >>> 26) &&& 67108863, (c + (b + a >>> 26) >>> 26) &&& 67108863, (d + (c + (b + a >>> 26) >>> 26) >>> 26) &&& 67108863, e + (d + (c + (b + a >>> 26) >>> 26) >>> 26) >>> 26, rfl, mask_nat _, ?_, ?_, ?_, e1⟩
  · rw [mask_nat, b1]
  · rw [mask_nat, c1]
  · rw [mask_nat, d1]
def pN : Nat := 1361129467683753853853498429727072845819
theorem carry_val (l : List UInt64) (h : l.length = 5) (k : Nat) (hk : k ≤ 2305843009213693952) (hs : Small l k) :
    (carryL l).length = 5 ∧ Small (carryL l) 134217728 ∧ ∃ q, V5 l = V5 (carryL l) + q * pN := by
  obtain ⟨a, b, c, d, e, rfl⟩ := five_of' l h
  obtain ⟨ha, hb, hc, hd, he⟩ := small5.1 hs
  obtain ⟨a', b', c', d', e', hU, ea, eb, ec, ed, ee⟩ := carryUp_five a b c d e k (by omega) ha hb hc hd he
  unfold carryL
  rw [hU]
  show _ ∧ Small [a' + (e' >>> 26) * 5 &&& 67108863, b' + (a' + (e' >>> 26) * 5) >>> 26, c', d', e' &&& 67108863] _ ∧ _
  have m1 : ((e' >>> 26) * 5).toNat = e'.toNat / 67108864 * 5 := by rw [mul_nat _ _ (by rw [shr26]; show _ * 5 < _; omega), shr26]; rfl
  have a2 : (a' + (e' >>> 26) * 5).toNat = a'.toNat + e'.toNat / 67108864 * 5 := by rw [add_nat _ _ (by rw [m1]; omega), m1]
  have b2 : (b' + (a' + (e' >>> 26) * 5) >>> 26).toNat = b'.toNat + (a'.toNat + e'.toNat / 67108864 * 5) / 67108864 := by rw [add_nat _ _ (by rw [shr26, a2]; omega), shr26, a2]
  refine ⟨rfl, ?_, e'.toNat / 67108864, ?_⟩
  · rw [small5, mask_nat, mask_nat, b2]
    omega
  · show V5 _ = V5 [_, _, _, _, _] + _
    simp only [V5, mask_nat, a2, b2, pN]
    omega
theorem prod_lt (x y : UInt64) (hx : x.toNat < 268435456) (hy : y.toNat < 67108864) : (x * y).toNat = x.toNat * y.toNat ∧ x.toNat * y.toNat < 18014398509481984 := by
  have h : x.toNat * y.toNat < 268435456 * 67108864 := Nat.mul_lt_mul'' hx hy
  exact ⟨mul_nat _ _ (by omega), by omega⟩
theorem prod5_lt (x y : UInt64) (hx : x.toNat < 268435456) (hy : y.toNat < 67108864) : (x * y * 5).toNat = x.toNat * y.toNat * 5 := by
  obtain ⟨h1, h2⟩ := prod_lt x y hx hy
  rw [mul_nat _ _ (by rw [h1]; show _ * 5 < _; omega), h1]; rfl
theorem mulUp_five (a0 a1 a2 a3 a4 r0 r1 r2 r3 r4 : UInt64) : mulUp [a0, a1, a2, a3, a4] [r0, r1, r2, r3, r4] 25 = [0 + a0 * r0 + a1 * r4 * 5 + a2 * r3 * 5 + a3 * r2 * 5 + a4 * r1 * 5, 0 + a0 * r1 + a1 * r0 + a2 * r4 * 5 + a3 * r3 * 5 + a4 * r2 * 5, 0 + a0 * r2 + a1 * r1 + a2 * r0 + a3 * r4 * 5 + a4 * r3 * 5, 0 + a0 * r3 + a1 * r2 + a2 * r1 + a3 * r0 + a4 * r4 * 5, 0 + a0 * r4 + a1 * r3 + a2 * r2 + a3 * r1 + a4 * r0] := by
  have h0 : mulUp [a0, a1, a2, a3, a4] [r0, r1, r2, r3, r4] 0 = [0, 0, 0, 0, 0] := rfl
  have h1 : mulUp [a0, a1, a2, a3, a4] [r0, r1, r2, r3, r4] 1 = [0 + a0 * r0, 0, 0, 0, 0] := by
    rw [mulUp, h0]; rfl
  have h2 : mulUp [a0, a1, a2, a3, a4] [r0, r1, r2, r3, r4] 2 = [0 + a0 * r0, 0 + a0 * r1, 0, 0, 0] := by
    rw [mulUp, h1]; rfl
  have h3 : mulUp [a0, a1, a2, a3, a4] [r0, r1, r2, r3, r4] 3 = [0 + a0 * r0, 0 + a0 * r1, 0 + a0 * r2, 0, 0] := by
    rw [mulUp, h2]; rfl
  have h4 : mulUp [a0, a1, a2, a3, a4] [r0, r1, r2, r3, r4] 4 = [0 + a0 * r0, 0 + a0 * r1, 0 + a0 * r2, 0 + a0 * r3, 0] := by
    rw [mulUp, h3]; rfl
  have h5 : mulUp [a0, a1, a2, a3, a4] [r0, r1, r2, r3, r4] 5 = [0 + a0 * r0, 0 + a0 * r1, 0 + a0 * r2, 0 + a0 * r3, 0 + a0 * r4] := by
    rw [mulUp, h4]; rfl
  have h6 : mulUp [a0, a1, a2, a3, a4] [r0, r1, r2, r3, r4] 6 = [0 + a0 * r0, 0 + a0 * r1 + a1 * r0, 0 + a0 * r2, 0 + a0 * r3, 0 + a0 * r4] := by
    rw [mulUp, h5]; rfl
  have h7 : mulUp [a0, a1, a2, a3, a4] [r0, r1, r2, r3, r4] 7 = [0 + a0 * r0, 0 + a0 * r1 + a1 * r0, 0 + a0 * r2 + a1 * r1, 0 + a0 * r3, 0 + a0 * r4] := by
    rw [mulUp, h6]; rfl
  have h8 : mulUp [a0, a1, a2, a3, a4] [r0, r1, r2, r3, r4] 8 = [0 + a0 * r0, 0 + a0 * r1 + a1 * r0, 0 + a0 * r2 + a1 * r1, 0 + a0 * r3 + a1 * r2, 0 + a0 * r4] := by
    rw [mulUp, h7]; rfl
  have h9 : mulUp [a0, a1, a2, a3, a4] [r0, r1, r2, r3, r4] 9 = [0 + a0 * r0, 0 + a0 * r1 + a1 * r0, 0 + a0 * r2 + a1 * r1, 0 + a0 * r3 + a1 * r2, 0 + a0 * r4 + a1 * r3] := by
    rw [mulUp, h8]; rfl
  have h10 : mulUp [a0, a1, a2, a3, a4] [r0, r1, r2, r3, r4] 10 = [0 + a0 * r0 + a1 * r4 * 5, 0 + a0 * r1 + a1 * r0, 0 + a0 * r2 + a1 * r1, 0 + a0 * r3 + a1 * r2, 0 + a0 * r4 + a1 * r3] := by
    rw [mulUp, h9]; rfl
  have h11 : mulUp [a0, a1, a2, a3, a4] [r0, r1, r2, r3, r4] 11 = [0 + a0 * r0 + a1 * r4 * 5, 0 + a0 * r1 + a1 * r0, 0 + a0 * r2 + a1 * r1 + a2 * r0, 0 + a0 * r3 + a1 * r2, 0 + a0 * r4 + a1 * r3] := by
    rw [mulUp, h10]; rfl
  have h12 : mulUp [a0, a1, a2, a3, a4] [r0, r1, r2, r3, r4] 12 = [0 + a0 * r0 + a1 * r4 * 5, 0 + a0 * r1 + a1 * r0, 0 + a0 * r2 + a1 * r1 + a2 * r0, 0 + a0 * r3 + a1 * r2 + a2 * r1, 0 + a0 * r4 + a1 * r3] := by
    rw [mulUp, h11]; rfl
  have h13 : mulUp [a0, a1, a2, a3, a4] [r0, r1, r2, r3, r4] 13 = [0 + a0 * r0 + a1 * r4 * 5, 0 + a0 * r1 + a1 * r0, 0 + a0 * r2 + a1 * r1 + a2 * r0, 0 + a0 * r3 + a1 * r2 + a2 * r1, 0 + a0 * r4 + a1 * r3 + a2 * r2] := by
    rw [mulUp, h12]; rfl
  have h14 : mulUp [a0, a1, a2, a3, a4] [r0, r1, r2, r3, r4] 14 = [0 + a0 * r0 + a1 * r4 * 5 + a2 * r3 * 5, 0 + a0 * r1 + a1 * r0, 0 + a0 * r2 + a1 * r1 + a2 * r0, 0 + a0 * r3 + a1 * r2 + a2 * r1, 0 + a0 * r4 + a1 * r3 + a2 * r2] := by
    rw [mulUp, h13]; rfl
  have h15 : mulUp [a0, a1, a2, a3, a4] [r0, r1, r2, r3, r4] 15 = [0 + a0 * r0 + a1 * r4 * 5 + a2 * r3 * 5, 0 + a0 * r1 + a1 * r0 + a2 * r4 * 5, 0 + a0 * r2 + a1 * r1 + a2 * r0, 0 + a0 * r3 + a1 * r2 + a2 * r1, 0 + a0 * r4 + a1 * r3 + a2 * r2] := by
    rw [mulUp, h14]; rfl
  have h16 : mulUp [a0, a1, a2, a3, a4] [r0, r1, r2, r3, r4] 16 = [0 + a0 * r0 + a1 * r4 * 5 + a2 * r3 * 5, 0 + a0 * r1 + a1 * r0 + a2 * r4 * 5, 0 + a0 * r2 + a1 * r1 + a2 * r0, 0 + a0 * r3 + a1 * r2 + a2 * r1 + a3 * r0, 0 + a0 * r4 + a1 * r3 + a2 * r2] := by
    rw [mulUp, h15]; rfl
  have h17 : mulUp [a0, a1, a2, a3, a4] [r0, r1, r2, r3, r4] 17 = [0 + a0 * r0 + a1 * r4 * 5 + a2 * r3 * 5, 0 + a0 * r1 + a1 * r0 + a2 * r4 * 5, 0 + a0 * r2 + a1 * r1 + a2 * r0, 0 + a0 * r3 + a1 * r2 + a2 * r1 + a3 * r0, 0 + a0 * r4 + a1 * r3 + a2 * r2 + a3 * r1] := by
    rw [mulUp, h16]; rfl
  have h18 : mulUp [a0, a1, a2, a3, a4] [r0, r1, r2, r3, r4] 18 = [0 + a0 * r0 + a1 * r4 * 5 + a2 * r3 * 5 + a3 * r2 * 5, 0 + a0 * r1 + a1 * r0 + a2 * r4 * 5, 0 + a0 * r2 + a1 * r1 + a2 * r0, 0 + a0 * r3 + a1 * r2 + a2 * r1 + a3 * r0, 0 + a0 * r4 + a1 * r3 + a2 * r2 + a3 * r1] := by
    rw [mulUp, h17]; rfl
  have h19 : mulUp [a0, a1, a2, a3, a4] [r0, r1, r2, r3, r4] 19 = [0 + a0 * r0 + a1 * r4 * 5 + a2 * r3 * 5 + a3 * r2 * 5, 0 + a0 * r1 + a1 * r0 + a2 * r4 * 5 + a3 * r3 * 5, 0 + a0 * r2 + a1 * r1 + a2 * r0, 0 + a0 * r3 + a1 * r2 + a2 * r1 + a3 * r0, 0 + a0 * r4 + a1 * r3 + a2 * r2 + a3 * r1] := by
    rw [mulUp, h18]; rfl
  have h20 : mulUp [a0, a1, a2, a3, a4] [r0, r1, r2, r3, r4] 20 = [0 + a0 * r0 + a1 * r4 * 5 + a2 * r3 * 5 + a3 * r2 * 5, 0 + a0 * r1 + a1 * r0 + a2 * r4 * 5 + a3 * r3 * 5, 0 + a0 * r2 + a1 * r1 + a2 * r0 + a3 * r4 * 5, 0 + a0 * r3 + a1 * r2 + a2 * r1 + a3 * r0, 0 + a0 * r4 + a1 * r3 + a2 * r2 + a3 * r1] := by
    rw [mulUp, h19]; rfl
  have h21 : mulUp [a0, a1, a2, a3, a4] [r0, r1, r2, r3, r4] 21 = [0 + a0 * r0 + a1 * r4 * 5 + a2 * r3 * 5 + a3 * r2 * 5, 0 + a0 * r1 + a1 * r0 + a2 * r4 * 5 + a3 * r3 * 5, 0 + a0 * r2 + a1 * r1 + a2 * r0 + a3 * r4 * 5, 0 + a0 * r3 + a1 * r2 + a2 * r1 + a3 * r0, 0 + a0 * r4 + a1 * r3 + a2 * r2 + a3 * r1 + a4 * r0] := by
    rw [mulUp, h20]; rfl
  have h22 : mulUp [a0, a1, a2, a3, a4] [r0, r1, r2, r3, r4] 22 = [0 + a0 * r0 + a1 * r4 * 5 + a2 * r3 * 5 + a3 * r2 * 5 + a4 * r1 * 5, 0 + a0 * r1 + a1 * r0 + a2 * r4 * 5 + a3 * r3 * 5, 0 + a0 * r2 + a1 * r1 + a2 * r0 + a3 * r4 * 5, 0 + a0 * r3 + a1 * r2 + a2 * r1 + a3 * r0, 0 + a0 * r4 + a1 * r3 + a2 * r2 + a3 * r1 + a4 * r0] := by
    rw [mulUp, h21]; rfl
  have h23 : mulUp [a0, a1, a2, a3, a4] [r0, r1, r2, r3, r4] 23 = [0 + a0 * r0 + a1 * r4 * 5 + a2 * r3 * 5 + a3 * r2 * 5 + a4 * r1 * 5, 0 + a0 * r1 + a1 * r0 + a2 * r4 * 5 + a3 * r3 * 5 + a4 * r2 * 5, 0 + a0 * r2 + a1 * r1 + a2 * r0 + a3 * r4 * 5, 0 + a0 * r3 + a1 * r2 + a2 * r1 + a3 * r0, 0 + a0 * r4 + a1 * r3 + a2 * r2 + a3 * r1 + a4 * r0] := by
    rw [mulUp, h22]; rfl
  have h24 : mulUp [a0, a1, a2, a3, a4] [r0, r1, r2, r3, r4] 24 = [0 + a0 * r0 + a1 * r4 * 5 + a2 * r3 * 5 + a3 * r2 * 5 + a4 * r1 * 5, 0 + a0 * r1 + a1 * r0 + a2 * r4 * 5 + a3 * r3 * 5 + a4 * r2 * 5, 0 + a0 * r2 + a1 * r1 + a2 * r0 + a3 * r4 * 5 + a4 * r3 * 5, 0 + a0 * r3 + a1 * r2 + a2 * r1 + a3 * r0, 0 + a0 * r4 + a1 * r3 + a2 * r2 + a3 * r1 + a4 * r0] := by
    rw [mulUp, h23]; rfl
  have h25 : mulUp [a0, a1, a2, a3, a4] [r0, r1, r2, r3, r4] 25 = [0 + a0 * r0 + a1 * r4 * 5 + a2 * r3 * 5 + a3 * r2 * 5 + a4 * r1 * 5, 0 + a0 * r1 + a1 * r0 + a2 * r4 * 5 + a3 * r3 * 5 + a4 * r2 * 5, 0 + a0 * r2 + a1 * r1 + a2 * r0 + a3 * r4 * 5 + a4 * r3 * 5, 0 + a0 * r3 + a1 * r2 + a2 * r1 + a3 * r0 + a4 * r4 * 5, 0 + a0 * r4 + a1 * r3 + a2 * r2 + a3 * r1 + a4 * r0] := by
    rw [mulUp, h24]; rfl
  exact h25
set_option maxHeartbeats 1000000 in
theorem mul_val (a0 a1 a2 a3 a4 r0 r1 r2 r3 r4 : UInt64) (ha0 : a0.toNat < 268435456) (ha1 : a1.toNat < 268435456) (ha2 : a2.toNat < 268435456) (ha3 : a3.toNat < 268435456) (ha4 : a4.toNat < 268435456) (hr0 : r0.toNat < 67108864) (hr1 : r1.toNat < 67108864) (hr2 : r2.toNat < 67108864) (hr3 : r3.toNat < 67108864) (hr4 : r4.toNat < 67108864) :
    Small (mulUp [a0, a1, a2, a3, a4] [r0, r1, r2, r3, r4] 25) 1152921504606846976 ∧ V5 (mulUp [a0, a1, a2, a3, a4] [r0, r1, r2, r3, r4] 25) = (a0.toNat * r0.toNat + a1.toNat * r4.toNat * 5 + a2.toNat * r3.toNat * 5 + a3.toNat * r2.toNat * 5 + a4.toNat * r1.toNat * 5) + 67108864 * (a0.toNat * r1.toNat + a1.toNat * r0.toNat + a2.toNat * r4.toNat * 5 + a3.toNat * r3.toNat * 5 + a4.toNat * r2.toNat * 5) + 4503599627370496 * (a0.toNat * r2.toNat + a1.toNat * r1.toNat + a2.toNat * r0.toNat + a3.toNat * r4.toNat * 5 + a4.toNat * r3.toNat * 5) + 302231454903657293676544 * (a0.toNat * r3.toNat + a1.toNat * r2.toNat + a2.toNat * r1.toNat + a3.toNat * r0.toNat + a4.toNat * r4.toNat * 5) + 20282409603651670423947251286016 * (a0.toNat * r4.toNat + a1.toNat * r3.toNat + a2.toNat * r2.toNat + a3.toNat * r1.toNat + a4.toNat * r0.toNat) := by
  rw [mulUp_five]
  obtain ⟨p00, q00⟩ := prod_lt a0 r0 ha0 hr0
  obtain ⟨p01, q01⟩ := prod_lt a0 r1 ha0 hr1
  obtain ⟨p02, q02⟩ := prod_lt a0 r2 ha0 hr2
  obtain ⟨p03, q03⟩ := prod_lt a0 r3 ha0 hr3
  obtain ⟨p04, q04⟩ := prod_lt a0 r4 ha0 hr4
  obtain ⟨p10, q10⟩ := prod_lt a1 r0 ha1 hr0
  obtain ⟨p11, q11⟩ := prod_lt a1 r1 ha1 hr1
  obtain ⟨p12, q12⟩ := prod_lt a1 r2 ha1 hr2
  obtain ⟨p13, q13⟩ := prod_lt a1 r3 ha1 hr3
  obtain ⟨p14, q14⟩ := prod_lt a1 r4 ha1 hr4
  have f14 := prod5_lt a1 r4 ha1 hr4
  obtain ⟨p20, q20⟩ := prod_lt a2 r0 ha2 hr0
  obtain ⟨p21, q21⟩ := prod_lt a2 r1 ha2 hr1
  obtain ⟨p22, q22⟩ := prod_lt a2 r2 ha2 hr2
  obtain ⟨p23, q23⟩ := prod_lt a2 r3 ha2 hr3
  have f23 := prod5_lt a2 r3 ha2 hr3
  obtain ⟨p24, q24⟩ := prod_lt a2 r4 ha2 hr4
  have f24 := prod5_lt a2 r4 ha2 hr4
  obtain ⟨p30, q30⟩ := prod_lt a3 r0 ha3 hr0
  obtain ⟨p31, q31⟩ := prod_lt a3 r1 ha3 hr1
  obtain ⟨p32, q32⟩ := prod_lt a3 r2 ha3 hr2
  have f32 := prod5_lt a3 r2 ha3 hr2
  obtain ⟨p33, q33⟩ := prod_lt a3 r3 ha3 hr3
  have f33 := prod5_lt a3 r3 ha3 hr3
  obtain ⟨p34, q34⟩ := prod_lt a3 r4 ha3 hr4
  have f34 := prod5_lt a3 r4 ha3 hr4
  obtain ⟨p40, q40⟩ := prod_lt a4 r0 ha4 hr0
  obtain ⟨p41, q41⟩ := prod_lt a4 r1 ha4 hr1
  have f41 := prod5_lt a4 r1 ha4 hr1
  obtain ⟨p42, q42⟩ := prod_lt a4 r2 ha4 hr2
  have f42 := prod5_lt a4 r2 ha4 hr2
  obtain ⟨p43, q43⟩ := prod_lt a4 r3 ha4 hr3
  have f43 := prod5_lt a4 r3 ha4 hr3
  obtain ⟨p44, q44⟩ := prod_lt a4 r4 ha4 hr4
  have f44 := prod5_lt a4 r4 ha4 hr4
  have s0 : (0 + a0 * r0 + a1 * r4 * 5 + a2 * r3 * 5 + a3 * r2 * 5 + a4 * r1 * 5).toNat = a0.toNat * r0.toNat + a1.toNat * r4.toNat * 5 + a2.toNat * r3.toNat * 5 + a3.toNat * r2.toNat * 5 + a4.toNat * r1.toNat * 5 := by
    simp only [UInt64.toNat_add, p00, f14, f23, f32, f41, UInt64.toNat_zero]
    omega
  have s1 : (0 + a0 * r1 + a1 * r0 + a2 * r4 * 5 + a3 * r3 * 5 + a4 * r2 * 5).toNat = a0.toNat * r1.toNat + a1.toNat * r0.toNat + a2.toNat * r4.toNat * 5 + a3.toNat * r3.toNat * 5 + a4.toNat * r2.toNat * 5 := by
    simp only [UInt64.toNat_add, p01, p10, f24, f33, f42, UInt64.toNat_zero]
    omega
  have s2 : (0 + a0 * r2 + a1 * r1 + a2 * r0 + a3 * r4 * 5 + a4 * r3 * 5).toNat = a0.toNat * r2.toNat + a1.toNat * r1.toNat + a2.toNat * r0.toNat + a3.toNat * r4.toNat * 5 + a4.toNat * r3.toNat * 5 := by
    simp only [UInt64.toNat_add, p02, p11, p20, f34, f43, UInt64.toNat_zero]
    omega
  have s3 : (0 + a0 * r3 + a1 * r2 + a2 * r1 + a3 * r0 + a4 * r4 * 5).toNat = a0.toNat * r3.toNat + a1.toNat * r2.toNat + a2.toNat * r1.toNat + a3.toNat * r0.toNat + a4.toNat * r4.toNat * 5 := by
    simp only [UInt64.toNat_add, p03, p12, p21, p30, f44, UInt64.toNat_zero]
    omega
  have s4 : (0 + a0 * r4 + a1 * r3 + a2 * r2 + a3 * r1 + a4 * r0).toNat = a0.toNat * r4.toNat + a1.toNat * r3.toNat + a2.toNat * r2.toNat + a3.toNat * r1.toNat + a4.toNat * r0.toNat := by
    simp only [UInt64.toNat_add, p04, p13, p22, p31, p40, UInt64.toNat_zero]
    omega
  refine ⟨?_, ?_⟩
  · rw [small5, s0, s1, s2, s3, s4]
    omega
  · show _ + _ * _ + _ * _ + _ * _ + _ * _ = _
    rw [s0, s1, s2, s3, s4]
set_option maxHeartbeats 1000000 in
theorem mul_ring (a0 a1 a2 a3 a4 r0 r1 r2 r3 r4 : Nat) : ∃ q, (1 * a0 + 67108864 * a1 + 4503599627370496 * a2 + 302231454903657293676544 * a3 + 20282409603651670423947251286016 * a4) * (1 * r0 + 67108864 * r1 + 4503599627370496 * r2 + 302231454903657293676544 * r3 + 20282409603651670423947251286016 * r4) = ((a0 * r0 + a1 * r4 * 5 + a2 * r3 * 5 + a3 * r2 * 5 + a4 * r1 * 5) + 67108864 * (a0 * r1 + a1 * r0 + a2 * r4 * 5 + a3 * r3 * 5 + a4 * r2 * 5) + 4503599627370496 * (a0 * r2 + a1 * r1 + a2 * r0 + a3 * r4 * 5 + a4 * r3 * 5) + 302231454903657293676544 * (a0 * r3 + a1 * r2 + a2 * r1 + a3 * r0 + a4 * r4 * 5) + 20282409603651670423947251286016 * (a0 * r4 + a1 * r3 + a2 * r2 + a3 * r1 + a4 * r0)) + q * pN := by
  refine ⟨a1 * r4 * 1 + a2 * r3 * 1 + a2 * r4 * 67108864 + a3 * r2 * 1 + a3 * r3 * 67108864 + a3 * r4 * 4503599627370496 + a4 * r1 * 1 + a4 * r2 * 67108864 + a4 * r3 * 4503599627370496 + a4 * r4 * 302231454903657293676544, ?_⟩
  unfold pN
  grind
/-- A block taken in, as whole numbers. -/
theorem block_val (acc r n : List UInt64) (h1 : acc.length = 5) (h2 : r.length = 5) (h3 : n.length = 5) (s1 : Small acc 134217728) (s2 : Small r 67108864) (s3 : Small n 67108864) :
    (blockL acc r n).length = 5 ∧ Small (blockL acc r n) 134217728 ∧ ∃ q, (V5 acc + V5 n) * V5 r = V5 (blockL acc r n) + q * pN := by
  obtain ⟨a0, a1, a2, a3, a4, rfl⟩ := five_of' acc h1
  obtain ⟨r0, r1, r2, r3, r4, rfl⟩ := five_of' r h2
  obtain ⟨n0, n1, n2, n3, n4, rfl⟩ := five_of' n h3
  obtain ⟨u0, u1, u2, u3, u4⟩ := small5.1 s1
  obtain ⟨v0, v1, v2, v3, v4⟩ := small5.1 s2
  obtain ⟨w0, w1, w2, w3, w4⟩ := small5.1 s3
  have e0 := add_nat a0 n0 (by omega)
  have e1 := add_nat a1 n1 (by omega)
  have e2 := add_nat a2 n2 (by omega)
  have e3 := add_nat a3 n3 (by omega)
  have e4 := add_nat a4 n4 (by omega)
  obtain ⟨m1, m2⟩ := mul_val (a0 + n0) (a1 + n1) (a2 + n2) (a3 + n3) (a4 + n4) r0 r1 r2 r3 r4 (by omega) (by omega) (by omega) (by omega) (by omega) v0 v1 v2 v3 v4
  have ha : addL [a0, a1, a2, a3, a4] [n0, n1, n2, n3, n4] = [a0 + n0, a1 + n1, a2 + n2, a3 + n3, a4 + n4] := rfl
  obtain ⟨c1, c2, q, c3⟩ := carry_val _ (mulUp_len (addL [a0, a1, a2, a3, a4] [n0, n1, n2, n3, n4]) [r0, r1, r2, r3, r4] 25) 1152921504606846976 (by omega) (by rw [ha]; exact m1)
  refine ⟨c1, c2, ?_⟩
  unfold blockL
  rw [ha] at c3 ⊢
  obtain ⟨q', hr⟩ := mul_ring (a0 + n0).toNat (a1 + n1).toNat (a2 + n2).toNat (a3 + n3).toNat (a4 + n4).toNat r0.toNat r1.toNat r2.toNat r3.toNat r4.toNat
  rw [m2] at c3
  refine ⟨q + q', ?_⟩
  rw [e0, e1, e2, e3, e4] at hr c3
  have x1 : V5 [a0, a1, a2, a3, a4] + V5 [n0, n1, n2, n3, n4] = 1 * (a0.toNat + n0.toNat) + 67108864 * (a1.toNat + n1.toNat) + 4503599627370496 * (a2.toNat + n2.toNat) + 302231454903657293676544 * (a3.toNat + n3.toNat) + 20282409603651670423947251286016 * (a4.toNat + n4.toNat) := by
    simp only [V5]; omega
  have x2 : V5 [r0, r1, r2, r3, r4] = 1 * r0.toNat + 67108864 * r1.toNat + 4503599627370496 * r2.toNat + 302231454903657293676544 * r3.toNat + 20282409603651670423947251286016 * r4.toNat := by
    simp only [V5]; omega
  rw [x1, x2, hr, Nat.add_mul q q' pN]
  omega
end Go.Proofs.YtichgiecohhmgaaDoor
namespace Go.Proofs.YtichgiecohhmgaaDoor
open Go.RowKit Go.Lib Base
set_option linter.unusedVariables false
set_option linter.unusedSimpArgs false

/-- Carrying, with its steps named. -/
structure Carr (a b c d e a' b' c' d' e' : Nat) : Prop where
  ex : ∃ B C D E S : Nat, B = b + a / 67108864 ∧ C = c + B / 67108864 ∧ D = d + C / 67108864 ∧ E = e + D / 67108864 ∧ S = a % 67108864 + E / 67108864 * 5 ∧ a' = S % 67108864 ∧ b' = B % 67108864 + S / 67108864 ∧ c' = C % 67108864 ∧ d' = D % 67108864 ∧ e' = E % 67108864
theorem carry_five (a b c d e : UInt64) (k : Nat) (hk : k ≤ 2305843009213693952) (ha : a.toNat < k) (hb : b.toNat < k) (hc : c.toNat < k) (hd : d.toNat < k) (he : e.toNat < k) :
    ∃ a' b' c' d' e' : UInt64, carryL [a, b, c, d, e] = [a', b', c', d', e'] ∧ Carr a.toNat b.toNat c.toNat d.toNat e.toNat a'.toNat b'.toNat c'.toNat d'.toNat e'.toNat := by
  obtain ⟨a', b', c', d', e', hU, ea, eb, ec, ed, ee⟩ := carryUp_five a b c d e k (by omega) ha hb hc hd he
  have m1 : ((e' >>> 26) * 5).toNat = e'.toNat / 67108864 * 5 := by rw [mul_nat _ _ (by rw [shr26]; show _ * 5 < _; omega), shr26]; rfl
  have a2 : (a' + (e' >>> 26) * 5).toNat = a'.toNat + e'.toNat / 67108864 * 5 := by rw [add_nat _ _ (by rw [m1]; omega), m1]
  have b2 : (b' + (a' + (e' >>> 26) * 5) >>> 26).toNat = b'.toNat + (a'.toNat + e'.toNat / 67108864 * 5) / 67108864 := by rw [add_nat _ _ (by rw [shr26, a2]; omega), shr26, a2]
  refine ⟨a' + (e' >>> 26) * 5 &&& 67108863, b' + (a' + (e' >>> 26) * 5) >>> 26, c', d', e' &&& 67108863, ?_, ⟨_, _, _, _, _, rfl, rfl, rfl, rfl, rfl, ?_, ?_, ec, ed, ?_⟩⟩
  · unfold carryL; rw [hU]; rfl
  · rw [mask_nat, a2, ea, ee]
  · rw [b2, ea, eb, ee]
  · rw [mask_nat, ee]
def V5n (a b c d e : Nat) : Nat := a + 67108864 * b + 4503599627370496 * c + 302231454903657293676544 * d + 20282409603651670423947251286016 * e
theorem carr_one (a b c d e a' b' c' d' e' : Nat) (h : Carr a b c d e a' b' c' d' e') (ha : a < 134217728) (hb : b < 134217728) (hc : c < 134217728) (hd : d < 134217728) (he : e < 134217728) :
    (a' < 67108864 ∧ b' ≤ 67108864 ∧ c' < 67108864 ∧ d' < 67108864 ∧ e' < 67108864) ∧ ∃ q, V5n a b c d e = V5n a' b' c' d' e' + q * pN := by
  obtain ⟨B, C, D, E, S, hB, hC, hD, hE, hS, rfl, rfl, rfl, rfl, rfl⟩ := h.ex
  refine ⟨?_, E / 67108864, ?_⟩
  · refine ⟨by omega, ?_, by omega, by omega, by omega⟩
    have : E < 134217728 + 3 := by omega
    omega
  · simp only [V5n, pN]; omega
theorem carr_two (a b c d e a' b' c' d' e' : Nat) (h : Carr a b c d e a' b' c' d' e') (ha : a < 67108864) (hb : b ≤ 67108864) (hc : c < 67108864) (hd : d < 67108864) (he : e < 67108864) :
    (a' < 67108864 ∧ b' < 67108864 ∧ c' < 67108864 ∧ d' < 67108864 ∧ e' < 67108864) ∧ ∃ q, V5n a b c d e = V5n a' b' c' d' e' + q * pN := by
  obtain ⟨B, C, D, E, S, hB, hC, hD, hE, hS, rfl, rfl, rfl, rfl, rfl⟩ := h.ex
  refine ⟨?_, E / 67108864, ?_⟩
  · refine ⟨by omega, ?_, by omega, by omega, by omega⟩
    have h1 : a / 67108864 = 0 := by omega
    have h2 : B = b := by omega
    by_cases hb2 : b < 67108864
    · have h3 : C = c := by omega
      have h4 : D = d := by omega
      have h5 : E = e := by omega
      omega
    · have h3 : B % 67108864 = 0 := by omega
      have h4 : E ≤ 67108864 := by omega
      omega
  · simp only [V5n, pN]; omega
/-- Five added, and carried: does it reach 2^130? -/
theorem five_carry (a b c d e a' b' c' d' e' : Nat) (ha : a < 67108864) (hb : b < 67108864) (hc : c < 67108864) (hd : d < 67108864) (he : e < 67108864) (B C D : Nat) (hB : B = b + (a + 5) / 67108864) (hC : C = c + B / 67108864) (hD : D = d + C / 67108864)
    (xa : a' = (a + 5) % 67108864) (xb : b' = B % 67108864) (xc : c' = C % 67108864) (xd : d' = D % 67108864) (xe : e' = e + D / 67108864) :
    V5n a' b' c' d' e' = V5n a b c d e + 5 ∧ a' < 67108864 ∧ b' < 67108864 ∧ c' < 67108864 ∧ d' < 67108864 ∧ e' ≤ 67108864 := by
  refine ⟨?_, by omega, by omega, by omega, by omega, by omega⟩
  simp only [V5n]; omega
theorem below_p (a b c d e a' b' c' d' e' : Nat) (ha : a < 67108864) (hb : b < 67108864) (hc : c < 67108864) (hd : d < 67108864) (he : e < 67108864) (h1 : a' < 67108864) (h2 : b' < 67108864) (h3 : c' < 67108864) (h4 : d' < 67108864) (h5 : e' ≤ 67108864) (hv : V5n a' b' c' d' e' = V5n a b c d e + 5) :
    (e' < 67108864 → V5n a b c d e % pN = V5n a b c d e) ∧ (e' = 67108864 → V5n a b c d e % pN = V5n a' b' c' d' 0) := by
  simp only [V5n, pN] at hv ⊢
  constructor
  · intro h
    apply Nat.mod_eq_of_lt
    omega
  · rintro rfl
    rw [Nat.mod_eq_sub_mod (by omega), Nat.mod_eq_of_lt (by omega)]
    omega
theorem V5_n (a b c d e : UInt64) : V5 [a, b, c, d, e] = V5n a.toNat b.toNat c.toNat d.toNat e.toNat := rfl
theorem reduced_val (n : List UInt64) (h : n.length = 5) (hs : Small n 134217728) : (reducedL n).length = 5 ∧ Small (reducedL n) 67108864 ∧ V5 (reducedL n) = V5 n % pN := by
  obtain ⟨a, b, c, d, e, rfl⟩ := five_of' n h
  obtain ⟨h1, h2, h3, h4, h5⟩ := small5.1 hs
  obtain ⟨a1, b1, c1, d1, e1, hU1, k1⟩ := carry_five a b c d e 134217728 (by omega) h1 h2 h3 h4 h5
  obtain ⟨⟨y1, y2, y3, y4, y5⟩, q1, v1⟩ := carr_one _ _ _ _ _ _ _ _ _ _ k1 h1 h2 h3 h4 h5
  obtain ⟨a2, b2, c2, d2, e2, hU2, k2⟩ := carry_five a1 b1 c1 d1 e1 134217728 (by omega) (by omega) (by omega) (by omega) (by omega) (by omega)
  obtain ⟨⟨z1, z2, z3, z4, z5⟩, q2, v2⟩ := carr_two _ _ _ _ _ _ _ _ _ _ k2 y1 y2 y3 y4 y5
  clear k1 k2
  have hm : carryL (carryL [a, b, c, d, e]) = [a2, b2, c2, d2, e2] := by rw [hU1, hU2]
  have q5 : (a2 + 5).toNat = a2.toNat + 5 := by rw [add_nat _ _ (by show _ + 5 < _; omega)]; rfl
  obtain ⟨a3, b3, c3, d3, e3, hU3, xa3, xb3, xc3, xd3, xe3⟩ := carryUp_five (a2 + 5) b2 c2 d2 e2 134217728 (by omega) (by omega) (by omega) (by omega) (by omega) (by omega)
  rw [q5] at xa3 xb3 xc3 xd3 xe3
  obtain ⟨v3, w1, w2, w3, w4, w5⟩ := five_carry a2.toNat b2.toNat c2.toNat d2.toNat e2.toNat a3.toNat b3.toNat c3.toNat d3.toNat e3.toNat z1 z2 z3 z4 z5 _ _ _ rfl rfl rfl xa3 xb3 xc3 xd3 xe3
  clear xa3 xb3 xc3 xd3 xe3
  obtain ⟨p1, p2⟩ := below_p _ _ _ _ _ _ _ _ _ _ z1 z2 z3 z4 z5 w1 w2 w3 w4 w5 v3
  have hmod : V5 [a, b, c, d, e] % pN = V5 [a2, b2, c2, d2, e2] % pN := by
    rw [V5_n, V5_n, v1, v2, Nat.add_assoc, ← Nat.add_mul, Nat.add_mul_mod_self_right]
  have hred : reducedL [a, b, c, d, e] = if e3 >>> 26 = 0 then [a2, b2, c2, d2, e2] else [a3, b3, c3, d3, e3 &&& 67108863] := by
    unfold reducedL
    rw [hm]
    show (if (carryUp [a2 + 5, b2, c2, d2, e2] 4).getD 4 0 >>> 26 = 0 then _ else (carryUp [a2 + 5, b2, c2, d2, e2] 4).set 4 ((carryUp [a2 + 5, b2, c2, d2, e2] 4).getD 4 0 &&& 67108863)) = _
    rw [hU3]; rfl
  rw [hred, hmod, V5_n a2 b2 c2 d2 e2]
  by_cases h0 : e3 >>> 26 = 0
  · rw [if_pos h0]
    have h0' : e3.toNat / 67108864 = 0 := by rw [← shr26, h0]; rfl
    exact ⟨rfl, small5.2 ⟨z1, z2, z3, z4, z5⟩, (p1 (by omega)).symm⟩
  · rw [if_neg h0]
    have h0' : ¬ e3.toNat / 67108864 = 0 := fun hh => h0 (UInt64.toNat_inj.1 (by rw [shr26, hh]; rfl))
    have he : e3.toNat = 67108864 := by omega
    have hz : (e3 &&& 67108863).toNat = 0 := by rw [mask_nat, he]
    refine ⟨rfl, small5.2 ⟨w1, w2, w3, w4, by rw [hz]; omega⟩, ?_⟩
    rw [p2 he, V5_n, hz]
/-- The sixteen bytes of a number, the lowest first. -/
def bytes16 (x : Nat) : List UInt8 := (List.range 16).map fun i => UInt8.ofNat (x / 256 ^ i)
theorem bytes8_nat (x : UInt64) : bytes8 x = (List.range 8).map fun i => UInt8.ofNat (x.toNat / 256 ^ i) := by
  unfold bytes8
  apply List.map_congr_left
  intro i hi
  have hi8 := List.mem_range.1 hi
  apply UInt8.toNat_inj.1
  rw [UInt64.toNat_toUInt8, UInt8.toNat_ofNat', UInt64.toNat_shiftRight, UInt64.toNat_ofNat_of_lt' (by show 8 * i < 18446744073709551616; omega), Nat.mod_eq_of_lt (show 8 * i < 64 by omega), Nat.shiftRight_eq_div_pow, show (2 : Nat) ^ (8 * i) = 256 ^ i by rw [Nat.pow_mul]]
theorem bytes16_app (x y : UInt64) (z : Nat) (h : z % 340282366920938463463374607431768211456 = x.toNat + 18446744073709551616 * y.toNat) : bytes8 x ++ bytes8 y = bytes16 z := by
  have hx := x.toNat_lt
  have hy := y.toNat_lt
  rw [bytes8_nat, bytes8_nat]
  have hb : ∀ k, k = 0 ∨ k = 1 ∨ k = 2 ∨ k = 3 ∨ k = 4 ∨ k = 5 ∨ k = 6 ∨ k = 7 → UInt8.ofNat (x.toNat / 256 ^ k) = UInt8.ofNat (z / 256 ^ k) ∧ UInt8.ofNat (y.toNat / 256 ^ k) = UInt8.ofNat (z / 256 ^ (8 + k)) := by
    intro k hk
    constructor
    · apply UInt8.toNat_inj.1
      rw [UInt8.toNat_ofNat', UInt8.toNat_ofNat']
      rcases hk with rfl | rfl | rfl | rfl | rfl | rfl | rfl | rfl <;> simp <;> omega
    · apply UInt8.toNat_inj.1
      rw [UInt8.toNat_ofNat', UInt8.toNat_ofNat']
      rcases hk with rfl | rfl | rfl | rfl | rfl | rfl | rfl | rfl <;> simp <;> omega
  show [UInt8.ofNat (x.toNat / 256 ^ 0), UInt8.ofNat (x.toNat / 256 ^ 1), UInt8.ofNat (x.toNat / 256 ^ 2), UInt8.ofNat (x.toNat / 256 ^ 3), UInt8.ofNat (x.toNat / 256 ^ 4), UInt8.ofNat (x.toNat / 256 ^ 5), UInt8.ofNat (x.toNat / 256 ^ 6), UInt8.ofNat (x.toNat / 256 ^ 7), UInt8.ofNat (y.toNat / 256 ^ 0), UInt8.ofNat (y.toNat / 256 ^ 1), UInt8.ofNat (y.toNat / 256 ^ 2), UInt8.ofNat (y.toNat / 256 ^ 3), UInt8.ofNat (y.toNat / 256 ^ 4), UInt8.ofNat (y.toNat / 256 ^ 5), UInt8.ofNat (y.toNat / 256 ^ 6), UInt8.ofNat (y.toNat / 256 ^ 7)] = [UInt8.ofNat (z / 256 ^ 0), UInt8.ofNat (z / 256 ^ 1), UInt8.ofNat (z / 256 ^ 2), UInt8.ofNat (z / 256 ^ 3), UInt8.ofNat (z / 256 ^ 4), UInt8.ofNat (z / 256 ^ 5), UInt8.ofNat (z / 256 ^ 6), UInt8.ofNat (z / 256 ^ 7), UInt8.ofNat (z / 256 ^ (8 + 0)), UInt8.ofNat (z / 256 ^ (8 + 1)), UInt8.ofNat (z / 256 ^ (8 + 2)), UInt8.ofNat (z / 256 ^ (8 + 3)), UInt8.ofNat (z / 256 ^ (8 + 4)), UInt8.ofNat (z / 256 ^ (8 + 5)), UInt8.ofNat (z / 256 ^ (8 + 6)), UInt8.ofNat (z / 256 ^ (8 + 7))]
  rw [(hb 0 (by omega)).1, (hb 1 (by omega)).1, (hb 2 (by omega)).1, (hb 3 (by omega)).1, (hb 4 (by omega)).1, (hb 5 (by omega)).1, (hb 6 (by omega)).1, (hb 7 (by omega)).1, (hb 0 (by omega)).2, (hb 1 (by omega)).2, (hb 2 (by omega)).2, (hb 3 (by omega)).2, (hb 4 (by omega)).2, (hb 5 (by omega)).2, (hb 6 (by omega)).2, (hb 7 (by omega)).2]
end Go.Proofs.YtichgiecohhmgaaDoor
namespace Go.Proofs.YtichgiecohhmgaaDoor
open Go.RowKit Go.Lib Base
set_option linter.unusedVariables false
set_option linter.unusedSimpArgs false

theorem out_arith (n0 n1 n2 n3 n4 s0 s1 low high sum hi2 : Nat) (h0 : n0 < 67108864) (h1 : n1 < 67108864) (h2 : n2 < 67108864) (h3 : n3 < 67108864) (h4 : n4 < 67108864) (hs0 : s0 < 18446744073709551616) (hs1 : s1 < 18446744073709551616)
    (hl : low = n0 + n1 * 67108864 + n2 * 4503599627370496 % 18446744073709551616) (hh : high = n2 / 4096 + n3 * 16384 + n4 * 1099511627776 % 18446744073709551616)
    (hsum : sum = (low + s0) % 18446744073709551616) (c : Nat) (hc : c = if sum < low then 1 else 0) (hhi : hi2 = (high + (s1 + c) % 18446744073709551616) % 18446744073709551616) :
    (V5n n0 n1 n2 n3 n4 + (s0 + 18446744073709551616 * s1)) % 340282366920938463463374607431768211456 = sum + 18446744073709551616 * hi2 := by
  have hlow : low < 18446744073709551616 := by omega
  have hc2 : low + s0 = sum + 18446744073709551616 * c := by
    by_cases h : sum < low
    · rw [if_pos h] at hc; omega
    · rw [if_neg h] at hc; omega
  have hV : ∃ q, V5n n0 n1 n2 n3 n4 = low + 18446744073709551616 * high + 340282366920938463463374607431768211456 * q := by
    refine ⟨n4 / 16777216, ?_⟩
    simp only [V5n]; omega
  obtain ⟨q, hV⟩ := hV
  have hh2 : ∃ t, high + s1 + c = hi2 + 18446744073709551616 * t := ⟨(high + s1 + c) / 18446744073709551616, by omega⟩
  obtain ⟨t, ht⟩ := hh2
  have hhl : hi2 < 18446744073709551616 := by omega
  have hsl : sum < 18446744073709551616 := by omega
  have hz : V5n n0 n1 n2 n3 n4 + (s0 + 18446744073709551616 * s1) = sum + 18446744073709551616 * hi2 + 340282366920938463463374607431768211456 * (q + t) := by omega
  rw [hz, Nat.add_mul_mod_self_left, Nat.mod_eq_of_lt (by omega)]
theorem out_val (n : List UInt64) (h : n.length = 5) (hs : Small n 67108864) (s0 s1 : UInt64) : outL n s0 s1 = bytes16 (V5 n + (s0.toNat + 18446744073709551616 * s1.toNat)) := by
  obtain ⟨n0, n1, n2, n3, n4, rfl⟩ := five_of' n h
  obtain ⟨h0, h1, h2, h3, h4⟩ := small5.1 hs
  have e1 : (n1 <<< 26).toNat = n1.toNat * 67108864 := by rw [shl_nat n1 26 26 rfl (by omega)]; omega
  have e2 : (n2 <<< 52).toNat = n2.toNat * 4503599627370496 % 18446744073709551616 := shl_nat n2 52 52 rfl (by omega)
  have e3 : (n2 >>> 12).toNat = n2.toNat / 4096 := shr_nat n2 12 12 rfl (by omega)
  have e4 : (n3 <<< 14).toNat = n3.toNat * 16384 := by rw [shl_nat n3 14 14 rfl (by omega)]; omega
  have e5 : (n4 <<< 40).toNat = n4.toNat * 1099511627776 % 18446744073709551616 := shl_nat n4 40 40 rfl (by omega)
  have l1 : (n0 ||| n1 <<< 26).toNat = n0.toNat + n1.toNat * 67108864 := by rw [UInt64.toNat_or, e1, or_low _ _ 26 (by omega) (by show 67108864 ∣ _; omega)]
  have l2 : (n0 ||| n1 <<< 26 ||| n2 <<< 52).toNat = n0.toNat + n1.toNat * 67108864 + n2.toNat * 4503599627370496 % 18446744073709551616 := by rw [UInt64.toNat_or, l1, e2, or_low _ _ 52 (by omega) (by show 4503599627370496 ∣ _; omega)]
  have g1 : (n2 >>> 12 ||| n3 <<< 14).toNat = n2.toNat / 4096 + n3.toNat * 16384 := by rw [UInt64.toNat_or, e3, e4, or_low _ _ 14 (by omega) (by show 16384 ∣ _; omega)]
  have g2 : (n2 >>> 12 ||| n3 <<< 14 ||| n4 <<< 40).toNat = n2.toNat / 4096 + n3.toNat * 16384 + n4.toNat * 1099511627776 % 18446744073709551616 := by rw [UInt64.toNat_or, g1, e5, or_low _ _ 40 (by omega) (by show 1099511627776 ∣ _; omega)]
  have hO : outL [n0, n1, n2, n3, n4] s0 s1 = bytes8 ((n0 ||| n1 <<< 26 ||| n2 <<< 52) + s0) ++ bytes8 ((n2 >>> 12 ||| n3 <<< 14 ||| n4 <<< 40) + (s1 + if (n0 ||| n1 <<< 26 ||| n2 <<< 52) + s0 < (n0 ||| n1 <<< 26 ||| n2 <<< 52) then 1 else 0)) := rfl
  rw [hO]
  generalize n0 ||| n1 <<< 26 ||| n2 <<< 52 = low at l2 ⊢
  generalize n2 >>> 12 ||| n3 <<< 14 ||| n4 <<< 40 = high at g2 ⊢
  clear hO e1 e2 e3 e4 e5 l1 g1
  apply bytes16_app
  obtain ⟨c, hc⟩ : ∃ c : Nat, c = if (low + s0).toNat < low.toNat then 1 else 0 := ⟨_, rfl⟩
  have hcn : (if low + s0 < low then (1 : UInt64) else 0).toNat = c := by
    rw [hc]
    by_cases h : low + s0 < low
    · rw [if_pos h, if_pos (UInt64.lt_iff_toNat_lt.1 h)]; rfl
    · rw [if_neg h, if_neg (fun h' => h (UInt64.lt_iff_toNat_lt.2 h'))]; rfl
  refine out_arith n0.toNat n1.toNat n2.toNat n3.toNat n4.toNat s0.toNat s1.toNat low.toNat high.toNat _ _ h0 h1 h2 h3 h4 s0.toNat_lt s1.toNat_lt l2 g2 (UInt64.toNat_add _ _) c hc ?_
  rw [UInt64.toNat_add, UInt64.toNat_add, hcn]
/-- What was taken in, as a number below p. -/
def accN (r : Nat) (T : List UInt8) : Nat → Nat
  | 0 => 0
  | i + 1 => ((accN r T i + (leN ((T.drop (16 * i)).take 16) + 340282366920938463463374607431768211456)) * r) % pN
def lastN (r : Nat) (T : List UInt8) : Nat :=
  if restL T = [] then accN r T (T.length / 16) else ((accN r T (T.length / 16) + (leN (restL T) + 256 ^ (restL T).length)) * r) % pN
theorem acc_val (R : List UInt64) (hR : R.length = 5) (sR : Small R 67108864) (T : List UInt8) : ∀ i, 16 * i ≤ T.length → (accUp R T i).length = 5 ∧ Small (accUp R T i) 134217728 ∧ V5 (accUp R T i) % pN = accN (V5 R) T i
  | 0, _ => ⟨rfl, by intro x hx; simp [accUp] at hx; rw [hx]; decide, rfl⟩
  | i + 1, h => by
    obtain ⟨h1, h2, h3⟩ := acc_val R hR sR T i (by omega)
    have hb : ((T.drop (16 * i)).take 16).length = 16 := by simp; omega
    obtain ⟨v1, v2⟩ := loadL_val _ hb 1 (by decide)
    obtain ⟨b1, b2, q, b3⟩ := block_val (accUp R T i) R _ h1 hR (loadL_len _ _) h2 sR v2
    refine ⟨b1, b2, ?_⟩
    rw [accUp, accN, ← h3]
    have e : (V5 (accUp R T i) % pN + (leN ((T.drop (16 * i)).take 16) + 340282366920938463463374607431768211456)) * V5 R % pN = (V5 (accUp R T i) + V5 (loadL ((T.drop (16 * i)).take 16) 1)) * V5 R % pN := by
      rw [v1, show (1 : UInt64).toNat = 1 from rfl, Nat.one_mul, Nat.mul_mod, Nat.mod_add_mod, ← Nat.mul_mod]
    rw [e, b3, Nat.add_mul_mod_self_right]
theorem last_val (R : List UInt64) (hR : R.length = 5) (sR : Small R 67108864) (T : List UInt8) : (lastL R T).length = 5 ∧ Small (lastL R T) 134217728 ∧ V5 (lastL R T) % pN = lastN (V5 R) T := by
  obtain ⟨h1, h2, h3⟩ := acc_val R hR sR T (T.length / 16) (by omega)
  unfold lastL lastN
  by_cases hr : restL T = []
  · rw [if_pos hr, if_pos hr]; exact ⟨h1, h2, h3⟩
  · rw [if_neg hr, if_neg hr]
    have hl := restL_len T
    have h16 : (restL T).length < 16 := by omega
    have hb : (restL T ++ 1 :: List.replicate (15 - (restL T).length) 0).length = 16 := by simp; omega
    obtain ⟨v1, v2⟩ := loadL_val _ hb 0 (by decide)
    obtain ⟨b1, b2, q, b3⟩ := block_val (accOf R T) R _ h1 hR (loadL_len _ _) h2 sR v2
    refine ⟨b1, b2, ?_⟩
    rw [← h3]
    have ev : V5 (loadL (restL T ++ 1 :: List.replicate (15 - (restL T).length) 0) 0) = leN (restL T) + 256 ^ (restL T).length := by
      rw [v1, leN_app, leN, leN_zeros]
      show _ + _ * (1 + 256 * 0) + 0 * _ = _
      omega
    have e : (V5 (accUp R T (T.length / 16)) % pN + (leN (restL T) + 256 ^ (restL T).length)) * V5 R % pN = (V5 (accOf R T) + V5 (loadL (restL T ++ 1 :: List.replicate (15 - (restL T).length) 0) 0)) * V5 R % pN := by
      rw [ev, Nat.mul_mod, Nat.mod_add_mod, ← Nat.mul_mod]; rfl
    rw [e, b3, Nat.add_mul_mod_self_right]
theorem rOf_val (K : List UInt8) (h : 16 ≤ K.length) : V5 (rOf K) = leN (clampUp (K.take 16)) ∧ Small (rOf K) 67108864 := by
  obtain ⟨v1, v2⟩ := loadL_val (clampUp (K.take 16)) (by rw [clampUp_len]; simp; omega) 0 (by decide)
  refine ⟨?_, v2⟩
  rw [rOf, v1]
  show _ + 0 * _ = _
  omega
/-- THE TAG AS A NUMBER. -/
theorem tag_val (K T : List UInt8) (h : K.length = 32) : tagL K T = bytes16 (lastN (leN (clampUp (K.take 16))) T + leN (K.drop 16)) := by
  obtain ⟨r1, r2⟩ := rOf_val K (by omega)
  obtain ⟨l1, l2, l3⟩ := last_val (rOf K) rfl r2 T
  obtain ⟨d1, d2, d3⟩ := reduced_val _ l1 l2
  have hs : (s0Of K).toNat + 18446744073709551616 * (s1Of K).toNat = leN (K.drop 16) := by
    rw [s0Of, s1Of, word8_nat _ (by simp; omega), word8_nat _ (by simp; omega)]
    conv => rhs; rw [← List.take_append_drop 8 (K.drop 16), leN_app]
    rw [show ((K.drop 16).take 8).length = 8 by simp; omega]
  rw [tagL, out_val _ d1 d2, d3, l3, r1, hs]
end Go.Proofs.YtichgiecohhmgaaDoor
