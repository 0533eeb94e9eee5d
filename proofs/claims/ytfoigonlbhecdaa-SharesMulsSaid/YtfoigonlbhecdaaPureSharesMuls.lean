/- SharesMuls: the pure statement of the law SharesMuls: for every numbers the printed function answers true. The field is YtfoigonlbhecdaaGf's. -/
import Derived.Test.YtfoigonlbhecdaaPSharesMulsx1
import Derived.Test.YtfoigonlbhecdaaGf
import Derived.Test.YtfoigonlbhecdaaWords
namespace Go.Proofs.Ytfoigonlbhecdaa.Pure
open Go.RowKit Go.Proofs.Ytfoigonlbhecdaa.PSharesMuls Go.Proofs.YtfoigonlbhecdaaW.PrintWords Go.Proofs.YtfoigonlbhecdaaW.PrintLast
open Go.Proofs.Ytfoigonlbhecdaa.Gf Go.Proofs.Ytfoigonlbhecdaa.Base

theorem mul_l0 : ∀ (n k a b p : Nat), a < 256 → b < 2 ^ n → b < 256 → p < 256 → n < k → shares_mul.l0 k a b p = some ((p ^^^ gmR n a b : Nat) : Int) := by
  intro n
  induction n with
  | zero =>
    intro k a b p ha hb hb' hp hk
    obtain ⟨k, rfl⟩ : ∃ m, k = m + 1 := ⟨k - 1, by omega⟩
    obtain rfl : b = 0 := by simpa using hb
    simp only [shares_mul.l0]
    rw [if_neg (by simp)]
    simp [gmR]
  | succ n ih =>
    intro k a b p ha hb hb' hp hk
    obtain ⟨k, rfl⟩ : ∃ m, k = m + 1 := ⟨k - 1, by omega⟩
    simp only [shares_mul.l0]
    by_cases h0 : b = 0
    · subst h0
      rw [if_neg (by simp), gmR_zero]; simp
    · rw [if_pos (by omega)]
      have e1 : bits .and .u8 (b : Int) 1 = ((b % 2 : Nat) : Int) := by
        have := bits8_and b 1 hb' (by omega)
        rw [Nat.and_one_is_mod] at this
        exact this
      have e2 : bits .and .u8 (a : Int) 128 = ((if 128 ≤ a then 128 else 0 : Nat) : Int) := by
        have := bits8_and a 128 ha (by omega)
        rw [and128 ha] at this
        exact this
      have e3 : (a : Int) * 2 % 256 = ((a * 2 % 256 : Nat) : Int) := by simp
      have e4 : (b : Int) / 2 = ((b / 2 : Nat) : Int) := by simp
      have e5 : bits .xor .u8 (p : Int) a = ((p ^^^ a : Nat) : Int) := bits8_xor p a hp ha
      have e6 : bits .xor .u8 ((a * 2 % 256 : Nat) : Int) 27 = ((a * 2 % 256 ^^^ 27 : Nat) : Int) := bits8_xor _ 27 (by omega) (by omega)
      have hb2 : b / 2 < 2 ^ n := by rw [Nat.pow_succ] at hb; omega
      have hx := xt_lt ha
      rw [e1, e2, e3, e4, e5, e6]
      have go : ∀ q : Nat, q < 256 → (if ((if 128 ≤ a then 128 else 0 : Nat) : Int) = 0 then shares_mul.l0 k ((a * 2 % 256 : Nat) : Int) ((b / 2 : Nat) : Int) q else shares_mul.l0 k ((a * 2 % 256 ^^^ 27 : Nat) : Int) ((b / 2 : Nat) : Int) q) = some ((q ^^^ gmR n (xt a) (b / 2) : Nat) : Int) := by
        intro q hq
        by_cases h1 : 128 ≤ a
        · rw [if_pos h1, if_neg (by decide), ← xt_27 h1 ha]
          exact ih k _ _ _ hx hb2 (by omega) hq (by omega)
        · rw [if_neg h1, if_pos (by simp), show a * 2 % 256 = xt a by rw [xt_small (by omega)]; omega]
          exact ih k _ _ _ hx hb2 (by omega) hq (by omega)
      have h2 : b % 2 = 0 ∨ b % 2 = 1 := by omega
      rcases h2 with h2 | h2
      · rw [h2, if_pos (by simp), go p hp]
        show _ = some ((p ^^^ (g0 a b ^^^ gmR n (xt a) (b / 2)) : Nat) : Int)
        rw [g0_even h2, Nat.zero_xor]
      · rw [h2, if_neg (by simp), go _ (xor_lt hp ha)]
        show _ = some ((p ^^^ (g0 a b ^^^ gmR n (xt a) (b / 2)) : Nat) : Int)
        rw [g0_odd h2, Nat.xor_assoc]

theorem mul_f (k a b : Nat) (ha : a < 256) (hb : b < 256) (hk : 8 < k) : shares_mul.f k a b = some ((gm a b : Nat) : Int) := by
  have := mul_l0 8 k a b 0 ha hb hb (by omega) hk
  rw [gmR_eq, Nat.zero_xor] at this
  exact this
theorem Mul_f (k a b : Nat) (ha : a < 256) (hb : b < 256) (hk : 8 < k) : shares_Mul.f k a b = some (((gm a b : Nat) : Int), 0) := by
  unfold shares_Mul.f
  rw [if_neg (by omega), if_neg (by omega), if_neg (by omega), if_neg (by omega), show (a : Int) % 256 = a by omega, show (b : Int) % 256 = b by omega, mul_f k a b ha hb hk]
  have := gm_lt (b := b) ha
  simp only [Option.bind_some]
  rw [show wrap64 ((gm a b : Nat) : Int) = gm a b by unfold wrap64; omega]
theorem Mul_bad (k : Nat) (a b : Int) (h : ¬ (0 ≤ a ∧ a ≤ 255 ∧ 0 ≤ b ∧ b ≤ 255)) : shares_Mul.f k a b = some (0, 1) := by
  unfold shares_Mul.f
  by_cases h1 : a < 0
  · rw [if_pos h1]
  by_cases h2 : a > 255
  · rw [if_neg h1, if_pos h2]
  by_cases h3 : b < 0
  · rw [if_neg h1, if_neg h2, if_pos h3]
  rw [if_neg h1, if_neg h2, if_neg h3, if_pos (by omega)]

theorem inv_l0 (a : Nat) (ha : a < 256) : ∀ (d k n : Nat), n + d = 254 → d + 8 < k → shares_inv.l0 k a ((ip a n : Nat) : Int) n = some ((ip a 254 : Nat) : Int) := by
  intro d
  induction d with
  | zero =>
    intro k n hn hk
    obtain ⟨k, rfl⟩ : ∃ m, k = m + 1 := ⟨k - 1, by omega⟩
    obtain rfl : n = 254 := by omega
    simp only [shares_inv.l0]
    rw [if_neg (by decide)]
  | succ d ih =>
    intro k n hn hk
    obtain ⟨k, rfl⟩ : ∃ m, k = m + 1 := ⟨k - 1, by omega⟩
    simp only [shares_inv.l0]
    rw [if_pos (by omega), mul_f k _ _ (ip_lt n) ha (by omega)]
    simp only [Option.bind_some]
    rw [show wrap64 ((n : Int) + 1) = ((n + 1 : Nat) : Int) by unfold wrap64; omega]
    exact ih k (n + 1) (by omega) (by omega)
theorem Inv_f (k a : Nat) (h0 : a ≠ 0) (ha : a < 256) (hk : 262 < k) : shares_Inv.f k a = some (((ip a 254 : Nat) : Int), 0) := by
  unfold shares_Inv.f shares_inv.f
  rw [if_neg (by omega), if_neg (by omega), show (a : Int) % 256 = a by omega]
  have := inv_l0 a ha 254 k 0 (by omega) (by omega)
  rw [show ((ip a 0 : Nat) : Int) = 1 from rfl] at this
  rw [show shares_inv.l0 k a 1 0 = some ((ip a 254 : Nat) : Int) from this]
  have h := ip_lt (a := a) 254
  generalize ip a 254 = q at h
  simp only [Option.bind_some]
  rw [show wrap64 (q : Int) = q by unfold wrap64; omega]
theorem Inv_bad (k : Nat) (a : Int) (h : ¬ (1 ≤ a ∧ a ≤ 255)) : shares_Inv.f k a = some (0, 1) := by
  unfold shares_Inv.f
  by_cases h1 : a < 1
  · rw [if_pos h1]
  rw [if_neg h1, if_pos (by omega)]

theorem times_l0 : ∀ (n k a b p : Nat) (i : Int), a < 256 → b < 2 ^ n → b < 256 → p < 256 → n < k → i = 8 - n → n ≤ 8 → casketref26_times.l0 k a b p i = some ((p ^^^ gmR n a b : Nat) : Int) := by
  intro n
  induction n with
  | zero =>
    intro k a b p i ha hb hb' hp hk hi hn
    obtain ⟨k, rfl⟩ : ∃ m, k = m + 1 := ⟨k - 1, by omega⟩
    simp only [casketref26_times.l0]
    rw [if_neg (by omega)]
    simp [gmR]
  | succ n ih =>
    intro k a b p i ha hb hb' hp hk hi hn
    obtain ⟨k, rfl⟩ : ∃ m, k = m + 1 := ⟨k - 1, by omega⟩
    simp only [casketref26_times.l0]
    rw [if_pos (by omega)]
    have hb2 : b / 2 < 2 ^ n := by rw [Nat.pow_succ] at hb; omega
    have hb3 : b / 2 < 256 := by omega
    have hn3 : n ≤ 8 := by omega
    have hi3 : i + 1 = 8 - (n : Int) := by omega
    have hk3 : n < k := by omega
    have e1 : Int.tmod (b : Int) 2 = ((b % 2 : Nat) : Int) := by rw [Int.tmod_eq_emod_of_nonneg (by omega)]; simp
    have e2 : wrap64 (2 * (a : Int)) = ((2 * a : Nat) : Int) := by unfold wrap64; omega
    have e4 : wrap64 (Int.tdiv (b : Int) 2) = ((b / 2 : Nat) : Int) := by rw [Int.tdiv_eq_ediv_of_nonneg (by omega)]; unfold wrap64; omega
    have e5 : bits .xor .i64 (p : Int) a = ((p ^^^ a : Nat) : Int) := bitsI_xor p a (by omega) (by omega)
    have e6 : bits .xor .i64 ((2 * a : Nat) : Int) 283 = ((2 * a ^^^ 283 : Nat) : Int) := by
      have := bitsI_xor (2 * a) 283 (by omega) (by omega)
      rw [← this]; rfl
    have e7 : wrap64 (i + 1) = i + 1 := by unfold wrap64; omega
    have hx := xt_lt ha
    rw [e1, e2, e4, e5, e6, e7]
    have go : ∀ q : Nat, q < 256 → (if ((2 * a : Nat) : Int) ≥ 256 then casketref26_times.l0 k ((2 * a ^^^ 283 : Nat) : Int) ((b / 2 : Nat) : Int) q (i + 1) else casketref26_times.l0 k ((2 * a : Nat) : Int) ((b / 2 : Nat) : Int) q (i + 1)) = some ((q ^^^ gmR n (xt a) (b / 2) : Nat) : Int) := by
      intro q hq
      by_cases h1 : 128 ≤ a
      · rw [if_pos (by omega), ← xt_great h1 ha]
        exact ih k _ _ _ _ hx hb2 hb3 hq hk3 hi3 hn3
      · rw [if_neg (by omega), ← xt_small (by omega)]
        exact ih k _ _ _ _ hx hb2 hb3 hq hk3 hi3 hn3
    have h2 : b % 2 = 0 ∨ b % 2 = 1 := by omega
    rcases h2 with h2 | h2
    · rw [h2, if_neg (by simp), go p hp]
      show _ = some ((p ^^^ (g0 a b ^^^ gmR n (xt a) (b / 2)) : Nat) : Int)
      rw [g0_even h2, Nat.zero_xor]
    · rw [h2, if_pos (by simp), go _ (xor_lt hp ha)]
      show _ = some ((p ^^^ (g0 a b ^^^ gmR n (xt a) (b / 2)) : Nat) : Int)
      rw [g0_odd h2, Nat.xor_assoc]
theorem times_f (k a b : Nat) (ha : a < 256) (hb : b < 256) (hk : 8 < k) : casketref26_times.f k a b = some ((gm a b : Nat) : Int) := by
  have := times_l0 8 k a b 0 0 ha hb hb (by omega) hk (by omega) (by omega)
  rw [gmR_eq, Nat.zero_xor] at this
  exact this
theorem RefMul_f (k a b : Nat) (ha : a < 256) (hb : b < 256) (hk : 8 < k) : casketref26_Mul.f k a b = some (((gm a b : Nat) : Int), 0) := by
  unfold casketref26_Mul.f
  rw [if_neg (by omega), if_neg (by omega), if_neg (by omega), if_neg (by omega), times_f k a b ha hb hk]
  rfl
theorem RefMul_bad (k : Nat) (a b : Int) (h : ¬ (0 ≤ a ∧ a ≤ 255 ∧ 0 ≤ b ∧ b ≤ 255)) : casketref26_Mul.f k a b = some (0, 1) := by
  unfold casketref26_Mul.f
  by_cases h1 : a < 0
  · rw [if_pos h1]
  by_cases h2 : a > 255
  · rw [if_neg h1, if_pos h2]
  by_cases h3 : b < 0
  · rw [if_neg h1, if_neg h2, if_pos h3]
  rw [if_neg h1, if_neg h2, if_neg h3, if_pos (by omega)]
theorem inverse_l0 (a : Nat) (h0 : a ≠ 0) (ha : a < 256) : ∀ (d k n : Nat), n + d = ip a 254 → d + 9 < k → casketref26_inverse.l0 k a n = some ((ip a 254 : Nat) : Int) := by
  have hl := ip_lt (a := a) 254
  have hg := gm_inv h0 ha
  intro d
  induction d with
  | zero =>
    intro k n hn hk
    obtain ⟨k, rfl⟩ : ∃ m, k = m + 1 := ⟨k - 1, by omega⟩
    obtain rfl : n = ip a 254 := by omega
    simp only [casketref26_inverse.l0]
    rw [if_pos (by omega), times_f k a _ ha hl (by omega), hg]
    simp only [Option.bind_some]
    rfl
  | succ d ih =>
    intro k n hn hk
    obtain ⟨k, rfl⟩ : ∃ m, k = m + 1 := ⟨k - 1, by omega⟩
    simp only [casketref26_inverse.l0]
    rw [if_pos (by omega), times_f k a _ ha (by omega) (by omega)]
    simp only [Option.bind_some]
    rw [if_neg (fun h1 => by
      have h2 : gm a n = 1 := by omega
      have := inv_unique ha (by omega) hl h2 hg
      omega), show wrap64 ((n : Int) + 1) = ((n + 1 : Nat) : Int) by unfold wrap64; omega]
    exact ih k (n + 1) (by omega) (by omega)
theorem RefInv_f (k a : Nat) (h0 : a ≠ 0) (ha : a < 256) (hk : 300 < k) : casketref26_Inv.f k a = some (((ip a 254 : Nat) : Int), 0) := by
  have hl := ip_lt (a := a) 254
  have hn := ip_ne h0 ha
  unfold casketref26_Inv.f casketref26_inverse.f
  rw [if_neg (by omega), if_neg (by omega), show casketref26_inverse.l0 k a 1 = some ((ip a 254 : Nat) : Int) from inverse_l0 a h0 ha (ip a 254 - 1) k 1 (by omega) (by omega)]
  rfl
theorem RefInv_bad (k : Nat) (a : Int) (h : ¬ (1 ≤ a ∧ a ≤ 255)) : casketref26_Inv.f k a = some (0, 1) := by
  unfold casketref26_Inv.f
  by_cases h1 : a < 1
  · rw [if_pos h1]
  rw [if_neg h1, if_pos (by omega)]

theorem SharesMuls : casketlaw26_SharesMuls.Pure := by
  intro a b _ _
  refine ⟨400, ?_⟩
  have h1 : shares_Mul.f 400 a b = casketref26_Mul.f 400 a b := by
    by_cases h : 0 ≤ a ∧ a ≤ 255 ∧ 0 ≤ b ∧ b ≤ 255
    · obtain ⟨x, rfl⟩ := Int.eq_ofNat_of_zero_le h.1
      obtain ⟨y, rfl⟩ := Int.eq_ofNat_of_zero_le h.2.2.1
      rw [Mul_f 400 x y (by omega) (by omega) (by omega), RefMul_f 400 x y (by omega) (by omega) (by omega)]
    · rw [Mul_bad 400 a b h, RefMul_bad 400 a b h]
  have h2 : shares_Inv.f 400 a = casketref26_Inv.f 400 a := by
    by_cases h : 1 ≤ a ∧ a ≤ 255
    · obtain ⟨x, rfl⟩ := Int.eq_ofNat_of_zero_le (by omega : 0 ≤ a)
      rw [Inv_f 400 x (by omega) (by omega) (by omega), RefInv_f 400 x (by omega) (by omega) (by omega)]
    · rw [Inv_bad 400 a h, RefInv_bad 400 a h]
  have e1 : ∃ r, casketref26_Mul.f 400 a b = some r := by
    by_cases h : 0 ≤ a ∧ a ≤ 255 ∧ 0 ≤ b ∧ b ≤ 255
    · obtain ⟨x, rfl⟩ := Int.eq_ofNat_of_zero_le h.1
      obtain ⟨y, rfl⟩ := Int.eq_ofNat_of_zero_le h.2.2.1
      exact ⟨_, RefMul_f 400 x y (by omega) (by omega) (by omega)⟩
    · exact ⟨_, RefMul_bad 400 a b h⟩
  have e2 : ∃ r, casketref26_Inv.f 400 a = some r := by
    by_cases h : 1 ≤ a ∧ a ≤ 255
    · obtain ⟨x, rfl⟩ := Int.eq_ofNat_of_zero_le (by omega : 0 ≤ a)
      exact ⟨_, RefInv_f 400 x (by omega) (by omega) (by omega)⟩
    · exact ⟨_, RefInv_bad 400 a h⟩
  obtain ⟨r, e1⟩ := e1
  obtain ⟨q, e2⟩ := e2
  unfold casketlaw26_SharesMuls.f casketlaw26_num.f
  rw [h1, h2, e1, e2]
  simp
end Go.Proofs.Ytfoigonlbhecdaa.Pure
