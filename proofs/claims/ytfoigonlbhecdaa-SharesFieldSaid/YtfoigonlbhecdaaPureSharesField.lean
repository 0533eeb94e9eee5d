/- SharesField: the pure statement of the law SharesField: for every numbers the printed function answers true. The field is YtfoigonlbhecdaaGf's. -/
import Derived.Test.YtfoigonlbhecdaaPSharesFieldx2
import Derived.Test.YtfoigonlbhecdaaGf
import Derived.Test.YtfoigonlbhecdaaWords
namespace Go.Proofs.Ytfoigonlbhecdaa.Pure
open Go.RowKit Go.Proofs.Ytfoigonlbhecdaa.PSharesField Go.Proofs.YtfoigonlbhecdaaW.PrintWords Go.Proofs.YtfoigonlbhecdaaW.PrintLast
open Go.Proofs.Ytfoigonlbhecdaa.Gf Go.Proofs.Ytfoigonlbhecdaa.Base

theorem mul_l0 : ∀ (n k a b p : Nat), a < 256 → b < 2 ^ n → b < 256 → p < 256 → n < k → shares_mul.l0 k a b p = some ((p ^^^ gmR n a b : Nat) : Int) := by
  intro n
  induction n with
  | zero =>
    intro k a b p ha hb hb' hp hk
    obtain ⟨k, rfl⟩ : ∃ m, k = m + 1 := ⟨k - 1, by omega⟩
    obtain rfl : b = 0 := by simpa using hb
    simp only [shares_mul.l0]
    rw [if_neg (by simp)]
    simp [gmR]
  | succ n ih =>
    intro k a b p ha hb hb' hp hk
    obtain ⟨k, rfl⟩ : ∃ m, k = m + 1 := ⟨k - 1, by omega⟩
    simp only [shares_mul.l0]
    by_cases h0 : b = 0
    · subst h0
      rw [if_neg (by simp), gmR_zero]; simp
    · rw [if_pos (by omega)]
      have e1 : bits .and .u8 (b : Int) 1 = ((b % 2 : Nat) : Int) := by
        have := bits8_and b 1 hb' (by omega)
        rw [Nat.and_one_is_mod] at this
        exact this
      have e2 : bits .and .u8 (a : Int) 128 = ((if 128 ≤ a then 128 else 0 : Nat) : Int) := by
        have := bits8_and a 128 ha (by omega)
        rw [and128 ha] at this
        exact this
      have e3 : (a : Int) * 2 % 256 = ((a * 2 % 256 : Nat) : Int) := by simp
      have e4 : (b : Int) / 2 = ((b / 2 : Nat) : Int) := by simp
      have e5 : bits .xor .u8 (p : Int) a = ((p ^^^ a : Nat) : Int) := bits8_xor p a hp ha
      have e6 : bits .xor .u8 ((a * 2 % 256 : Nat) : Int) 27 = ((a * 2 % 256 ^^^ 27 : Nat) : Int) := bits8_xor _ 27 (by omega) (by omega)
      have hb2 : b / 2 < 2 ^ n := by rw [Nat.pow_succ] at hb; omega
      have hx := xt_lt ha
      rw [e1, e2, e3, e4, e5, e6]
      have go : ∀ q : Nat, q < 256 → (if ((if 128 ≤ a then 128 else 0 : Nat) : Int) = 0 then shares_mul.l0 k ((a * 2 % 256 : Nat) : Int) ((b / 2 : Nat) : Int) q else shares_mul.l0 k ((a * 2 % 256 ^^^ 27 : Nat) : Int) ((b / 2 : Nat) : Int) q) = some ((q ^^^ gmR n (xt a) (b / 2) : Nat) : Int) := by
        intro q hq
        by_cases h1 : 128 ≤ a
        · rw [if_pos h1, if_neg (by decide), ← xt_27 h1 ha]
          exact ih k _ _ _ hx hb2 (by omega) hq (by omega)
        · rw [if_neg h1, if_pos (by simp), show a * 2 % 256 = xt a by rw [xt_small (by omega)]; omega]
          exact ih k _ _ _ hx hb2 (by omega) hq (by omega)
      have h2 : b % 2 = 0 ∨ b % 2 = 1 := by omega
      rcases h2 with h2 | h2
      · rw [h2, if_pos (by simp), go p hp]
        show _ = some ((p ^^^ (g0 a b ^^^ gmR n (xt a) (b / 2)) : Nat) : Int)
        rw [g0_even h2, Nat.zero_xor]
      · rw [h2, if_neg (by simp), go _ (xor_lt hp ha)]
        show _ = some ((p ^^^ (g0 a b ^^^ gmR n (xt a) (b / 2)) : Nat) : Int)
        rw [g0_odd h2, Nat.xor_assoc]

theorem mul_f (k a b : Nat) (ha : a < 256) (hb : b < 256) (hk : 8 < k) : shares_mul.f k a b = some ((gm a b : Nat) : Int) := by
  have := mul_l0 8 k a b 0 ha hb hb (by omega) hk
  rw [gmR_eq, Nat.zero_xor] at this
  exact this
theorem Mul_f (k a b : Nat) (ha : a < 256) (hb : b < 256) (hk : 8 < k) : shares_Mul.f k a b = some (((gm a b : Nat) : Int), 0) := by
  unfold shares_Mul.f
  rw [if_neg (by omega), if_neg (by omega), if_neg (by omega), if_neg (by omega), show (a : Int) % 256 = a by omega, show (b : Int) % 256 = b by omega, mul_f k a b ha hb hk]
  have := gm_lt (b := b) ha
  simp only [Option.bind_some]
  rw [show wrap64 ((gm a b : Nat) : Int) = gm a b by unfold wrap64; omega]
theorem Mul_bad (k : Nat) (a b : Int) (h : ¬ (0 ≤ a ∧ a ≤ 255 ∧ 0 ≤ b ∧ b ≤ 255)) : shares_Mul.f k a b = some (0, 1) := by
  unfold shares_Mul.f
  by_cases h1 : a < 0
  · rw [if_pos h1]
  by_cases h2 : a > 255
  · rw [if_neg h1, if_pos h2]
  by_cases h3 : b < 0
  · rw [if_neg h1, if_neg h2, if_pos h3]
  rw [if_neg h1, if_neg h2, if_neg h3, if_pos (by omega)]

theorem inv_l0 (a : Nat) (ha : a < 256) : ∀ (d k n : Nat), n + d = 254 → d + 8 < k → shares_inv.l0 k a ((ip a n : Nat) : Int) n = some ((ip a 254 : Nat) : Int) := by
  intro d
  induction d with
  | zero =>
    intro k n hn hk
    obtain ⟨k, rfl⟩ : ∃ m, k = m + 1 := ⟨k - 1, by omega⟩
    obtain rfl : n = 254 := by omega
    simp only [shares_inv.l0]
    rw [if_neg (by decide)]
  | succ d ih =>
    intro k n hn hk
    obtain ⟨k, rfl⟩ : ∃ m, k = m + 1 := ⟨k - 1, by omega⟩
    simp only [shares_inv.l0]
    rw [if_pos (by omega), mul_f k _ _ (ip_lt n) ha (by omega)]
    simp only [Option.bind_some]
    rw [show wrap64 ((n : Int) + 1) = ((n + 1 : Nat) : Int) by unfold wrap64; omega]
    exact ih k (n + 1) (by omega) (by omega)
theorem Inv_f (k a : Nat) (h0 : a ≠ 0) (ha : a < 256) (hk : 262 < k) : shares_Inv.f k a = some (((ip a 254 : Nat) : Int), 0) := by
  unfold shares_Inv.f shares_inv.f
  rw [if_neg (by omega), if_neg (by omega), show (a : Int) % 256 = a by omega]
  have := inv_l0 a ha 254 k 0 (by omega) (by omega)
  rw [show ((ip a 0 : Nat) : Int) = 1 from rfl] at this
  rw [show shares_inv.l0 k a 1 0 = some ((ip a 254 : Nat) : Int) from this]
  have h := ip_lt (a := a) 254
  generalize ip a 254 = q at h
  simp only [Option.bind_some]
  rw [show wrap64 (q : Int) = q by unfold wrap64; omega]
theorem Inv_bad (k : Nat) (a : Int) (h : ¬ (1 ≤ a ∧ a ≤ 255)) : shares_Inv.f k a = some (0, 1) := by
  unfold shares_Inv.f
  by_cases h1 : a < 1
  · rw [if_pos h1]
  rw [if_neg h1, if_pos (by omega)]


theorem clipped_f (a : Int) (wa : (Lit.int .i64 a).wf = true) : ∃ x : Nat, x < 256 ∧ casketlaw26_clipped.f a 0 255 = some (x : Int) := by
  have e1 : wrap64 (wrap64 (255 - 0) + 1) = 256 := by unfold wrap64; omega
  unfold casketlaw26_clipped.f
  rw [e1, if_neg (by decide)]
  have hb : -256 < a.tmod 256 ∧ a.tmod 256 < 256 := by
    have h1 := Int.tmod_lt_of_pos a (b := 256) (by decide)
    have h2 := Int.tmod_lt_of_pos (-a) (b := 256) (by decide)
    rw [Int.neg_tmod] at h2
    omega
  generalize a.tmod 256 = m at hb
  by_cases h : m < 0
  · rw [if_pos h]
    refine ⟨(m + 256).toNat, by omega, ?_⟩
    congr 1
    unfold wrap64
    omega
  · rw [if_neg h]
    refine ⟨m.toNat, by omega, ?_⟩
    congr 1
    unfold wrap64
    omega
theorem product_f (k a b : Nat) (ha : a < 256) (hb : b < 256) (hk : 8 < k) : casketlaw26_product.f k a b = some ((gm a b : Nat) : Int) := by
  have := gm_lt (b := b) ha
  unfold casketlaw26_product.f casketlaw26_num.f
  rw [Mul_f k a b ha hb hk]
  simp only [Option.bind_some]
  rw [if_pos (by simp), if_neg (by omega), if_neg (by omega)]

theorem SharesField : casketlaw26_SharesField.Pure := by
  intro a0 b0 c0 wa wb wc
  obtain ⟨a, ha, ea⟩ := clipped_f a0 wa
  obtain ⟨b, hb, eb⟩ := clipped_f b0 wb
  obtain ⟨c, hc, ec⟩ := clipped_f c0 wc
  refine ⟨400, ?_⟩
  have hab := gm_lt (b := b) ha
  have hbc := gm_lt (b := c) hb
  have hac := gm_lt (b := c) ha
  have hx := xor_lt hb hc
  have exbc : bits .xor .i64 (b : Int) c = ((b ^^^ c : Nat) : Int) := bitsI_xor b c (by omega) (by omega)
  have exabac : bits .xor .i64 ((gm a b : Nat) : Int) ((gm a c : Nat) : Int) = ((gm a b ^^^ gm a c : Nat) : Int) := bitsI_xor _ _ (by omega) (by omega)
  have hfin : casketlaw26_SharesField.j2 398 a ((xt a : Nat) : Int) = some true := by
    simp only [casketlaw26_SharesField.j2]
    rw [show casketlaw26_product.f 397 (a : Int) 2 = some ((gm a 2 : Nat) : Int) from product_f 397 a 2 ha (by omega) (by omega), gm_two ha]
    simp only [Option.bind_some]
    rw [if_pos (by simp)]
    by_cases h0 : a = 0
    · subst h0
      rw [Inv_bad 397 _ (by omega)]
      simp [casketlaw26_num.f]
    · have hi := ip_lt (a := a) 254
      rw [Inv_f 397 a h0 ha (by omega)]
      simp only [Option.bind_some, casketlaw26_num.f]
      rw [if_neg (by omega), if_pos (by simp), product_f 397 a _ ha hi (by omega), gm_inv h0 ha]
      simp
  have hj1 : casketlaw26_SharesField.j1 399 a false = some true := by
    simp only [casketlaw26_SharesField.j1]
    rw [if_neg (by simp)]
    by_cases h1 : 128 ≤ a
    · have e : wrap64 (2 * (a : Int)) = ((2 * a : Nat) : Int) := by unfold wrap64; omega
      have e6 : bits .xor .i64 ((2 * a : Nat) : Int) 283 = ((2 * a ^^^ 283 : Nat) : Int) := by
        have := bitsI_xor (2 * a) 283 (by omega) (by omega)
        rw [← this]; rfl
      rw [e, if_pos (by omega), e6, ← xt_great h1 ha]
      exact hfin
    · have e : wrap64 (2 * (a : Int)) = ((xt a : Nat) : Int) := by rw [xt_small (by omega)]; unfold wrap64; omega
      have := xt_small (a := a) (by omega)
      rw [e, if_neg (by omega)]
      exact hfin
  have hj0 : casketlaw26_SharesField.j0 400 a b ((gm a b : Nat) : Int) false = some true := by
    simp only [casketlaw26_SharesField.j0]
    rw [if_neg (by simp), show casketlaw26_product.f 399 (a : Int) 1 = some ((gm a 1 : Nat) : Int) from product_f 399 a 1 ha (by omega) (by omega), gm_comm ha (by omega), gm_one ha]
    simp only [Option.bind_some]
    rw [if_pos (by simp), show casketlaw26_product.f 399 (a : Int) 0 = some ((gm a 0 : Nat) : Int) from product_f 399 a 0 ha (by omega) (by omega), gm_comm ha (by omega), gm_zero]
    simp only [Option.bind_some]
    rw [if_pos (by simp)]
    by_cases h0 : a = 0
    · subst h0
      rw [if_pos (by simp), gm_zero]
      exact hj1
    · rw [if_neg (by omega)]
      by_cases hb0 : b = 0
      · subst hb0
        rw [gm_comm ha (by omega), gm_zero]
        exact hj1
      · have hne : gm a b ≠ 0 := fun h => (gm_eq_zero ha hb h).elim h0 hb0
        have e1 : (((gm a b : Nat) : Int) == 0) = false := by simpa using hne
        have e2 : ((b : Int) == 0) = false := by simpa using hb0
        rw [e1, e2]
        exact hj1
  unfold casketlaw26_SharesField.f
  rw [ea, eb, ec]
  simp only [Option.bind_some]
  rw [product_f 400 a b ha hb (by omega), product_f 400 b c hb hc (by omega), product_f 400 a c ha hc (by omega)]
  simp only [Option.bind_some]
  rw [if_neg (by omega), if_neg (by omega), if_neg (by omega), product_f 400 b a hb ha (by omega)]
  simp only [Option.bind_some]
  rw [gm_comm hb ha, if_pos (by simp), product_f 400 _ c hab hc (by omega), product_f 400 a _ ha hbc (by omega)]
  simp only [Option.bind_some]
  rw [gm_assoc ha hb hc, if_pos (by simp), exbc, product_f 400 a _ ha hx (by omega), exabac, gm_xor_right ha hb hc]
  simp only [Option.bind_some, bne_self_eq_false]
  exact hj0
end Go.Proofs.Ytfoigonlbhecdaa.Pure
