/- The field of 256 elements, in plain Lean: sums by xor, products bit by bit less 283. No program here. -/
namespace Go.Proofs.YtffhfmaphjjffaaDoor.Gf
set_option linter.unusedVariables false
set_option linter.unusedSimpArgs false

/-- A byte moved up by a bit, less 283 where that leaves the byte. -/
def xt (a : Nat) : Nat := Nat.xor (Nat.mul 2 a) (Nat.mul 283 (Nat.div a 128))
def g0 (a b : Nat) : Nat := Nat.mul (Nat.mod b 2) a
/-- The product. -/
def gm (a b : Nat) : Nat := Nat.xor (g0 a b) (Nat.xor (g0 (xt a) (Nat.div b 2)) (Nat.xor (g0 (xt (xt a)) (Nat.div b 4)) (Nat.xor (g0 (xt (xt (xt a))) (Nat.div b 8)) (Nat.xor (g0 (xt (xt (xt (xt a)))) (Nat.div b 16)) (Nat.xor (g0 (xt (xt (xt (xt (xt a))))) (Nat.div b 32)) (Nat.xor (g0 (xt (xt (xt (xt (xt (xt a)))))) (Nat.div b 64)) (g0 (xt (xt (xt (xt (xt (xt (xt a))))))) (Nat.div b 128))))))))
/-- Three times a byte. -/
def m3 (a : Nat) : Nat := Nat.xor a (xt a)
def pow3 : Nat → Nat
  | 0 => 1
  | n + 1 => m3 (pow3 n)

def allB (n : Nat) (f : Nat → Bool) : Bool := Nat.rec true (fun k r => and (f k) r) n
theorem allB_get {n : Nat} {f : Nat → Bool} (h : allB n f = true) : ∀ k, k < n → f k = true := by
  induction n with
  | zero => intro k hk; omega
  | succ n ih =>
    have h' : (f n && allB n f) = true := h
    rw [Bool.and_eq_true] at h'
    intro k hk
    rcases Nat.lt_or_ge k n with h1 | h1
    · exact ih h'.2 k h1
    · obtain rfl : k = n := by omega
      exact h'.1
theorem allB2 {n m : Nat} {f : Nat → Nat → Bool} (h : (allB n fun a => allB m fun b => f a b) = true) : ∀ a b, a < n → b < m → f a b = true :=
  fun a b ha hb => allB_get (allB_get h a ha) b hb

theorem chk_xt : (allB 256 fun a => Nat.blt (xt a) 256) = true := by decide +kernel
theorem chk_xtx : (allB 256 fun a => allB 256 fun b => Nat.beq (xt (Nat.xor a b)) (Nat.xor (xt a) (xt b))) = true := by decide +kernel
theorem chk_comm : (allB 256 fun a => allB 256 fun b => Nat.beq (gm a b) (gm b a)) = true := by decide +kernel
theorem chk_gxt : (allB 256 fun a => allB 256 fun b => Nat.beq (gm (xt a) b) (xt (gm a b))) = true := by decide +kernel
theorem chk_one : (allB 256 fun b => Nat.beq (gm 1 b) b) = true := by decide +kernel

theorem xt_lt {a : Nat} (h : a < 256) : xt a < 256 := by
  have := allB_get chk_xt a h
  simpa using this
theorem xt_xor {a b : Nat} (ha : a < 256) (hb : b < 256) : xt (a ^^^ b) = xt a ^^^ xt b := Nat.eq_of_beq_eq_true (allB2 chk_xtx a b ha hb)
theorem gm_comm {a b : Nat} (ha : a < 256) (hb : b < 256) : gm a b = gm b a := Nat.eq_of_beq_eq_true (allB2 chk_comm a b ha hb)
theorem gm_xt {a b : Nat} (ha : a < 256) (hb : b < 256) : gm (xt a) b = xt (gm a b) := Nat.eq_of_beq_eq_true (allB2 chk_gxt a b ha hb)
theorem gm_one {b : Nat} (hb : b < 256) : gm 1 b = b := Nat.eq_of_beq_eq_true (allB_get chk_one b hb)

theorem xor_lt {a b : Nat} (ha : a < 256) (hb : b < 256) : a ^^^ b < 256 := Nat.xor_lt_two_pow (n := 8) ha hb
theorem g0_lt {a b : Nat} (ha : a < 256) : g0 a b < 256 := by
  unfold g0
  have h : b % 2 = 0 ∨ b % 2 = 1 := by omega
  rcases h with h | h
  · show b % 2 * a < 256; rw [h]; omega
  · show b % 2 * a < 256; rw [h]; omega
theorem gm_lt {a b : Nat} (ha : a < 256) : gm a b < 256 := by
  have h1 := xt_lt ha
  have h2 := xt_lt h1
  have h3 := xt_lt h2
  have h4 := xt_lt h3
  have h5 := xt_lt h4
  have h6 := xt_lt h5
  have h7 := xt_lt h6
  exact xor_lt (g0_lt ha) (xor_lt (g0_lt h1) (xor_lt (g0_lt h2) (xor_lt (g0_lt h3) (xor_lt (g0_lt h4) (xor_lt (g0_lt h5) (xor_lt (g0_lt h6) (g0_lt h7)))))))
theorem g0_xor (a a' b : Nat) : g0 (a ^^^ a') b = g0 a b ^^^ g0 a' b := by
  show b % 2 * (a ^^^ a') = b % 2 * a ^^^ b % 2 * a'
  have h : b % 2 = 0 ∨ b % 2 = 1 := by omega
  rcases h with h | h <;> simp [h]
theorem gm_nat (a b : Nat) : gm a b = g0 a b ^^^ (g0 (xt a) (b / 2) ^^^ (g0 (xt (xt a)) (b / 4) ^^^ (g0 (xt (xt (xt a))) (b / 8) ^^^ (g0 (xt (xt (xt (xt a)))) (b / 16) ^^^ (g0 (xt (xt (xt (xt (xt a))))) (b / 32) ^^^ (g0 (xt (xt (xt (xt (xt (xt a)))))) (b / 64) ^^^ g0 (xt (xt (xt (xt (xt (xt (xt a))))))) (b / 128))))))) := rfl
theorem gm_xor {a a' : Nat} (b : Nat) (ha : a < 256) (ha' : a' < 256) : gm (a ^^^ a') b = gm a b ^^^ gm a' b := by
  have h1 := xt_lt ha; have k1 := xt_lt ha'
  have h2 := xt_lt h1; have k2 := xt_lt k1
  have h3 := xt_lt h2; have k3 := xt_lt k2
  have h4 := xt_lt h3; have k4 := xt_lt k3
  have h5 := xt_lt h4; have k5 := xt_lt k4
  have h6 := xt_lt h5; have k6 := xt_lt k5
  rw [gm_nat, gm_nat a, gm_nat a', xt_xor ha ha', xt_xor h1 k1, xt_xor h2 k2, xt_xor h3 k3, xt_xor h4 k4, xt_xor h5 k5, xt_xor h6 k6, g0_xor, g0_xor, g0_xor, g0_xor, g0_xor, g0_xor, g0_xor, g0_xor]
  ac_rfl
theorem m3_lt {a : Nat} (h : a < 256) : m3 a < 256 := xor_lt h (xt_lt h)
theorem gm_m3 {a b : Nat} (ha : a < 256) (hb : b < 256) : gm (m3 a) b = m3 (gm a b) := by
  show gm (a ^^^ xt a) b = gm a b ^^^ xt (gm a b)
  rw [gm_xor b ha (xt_lt ha), gm_xt ha hb]

theorem pow3_lt : ∀ n, pow3 n < 256
  | 0 => by decide
  | n + 1 => m3_lt (pow3_lt n)
/-- Every byte but 0 is a power of 3. -/
def powIs (a : Nat) : Nat → Nat → Bool
  | 0, _ => false
  | n + 1, p => Nat.beq p a || powIs a n (m3 p)
theorem powIs_get {a : Nat} : ∀ (n k : Nat), powIs a n (pow3 k) = true → ∃ i, i < k + n ∧ pow3 i = a
  | 0, _, h => by simp [powIs] at h
  | n + 1, k, h => by
    simp only [powIs, Bool.or_eq_true] at h
    rcases h with h | h
    · exact ⟨k, by omega, Nat.eq_of_beq_eq_true h⟩
    · obtain ⟨i, hi, he⟩ := powIs_get n (k + 1) h
      exact ⟨i, by omega, he⟩
theorem chk_pow : (allB 255 fun a => powIs (a + 1) 255 1) = true := by decide +kernel
theorem pow3_of {a : Nat} (h0 : a ≠ 0) (h : a < 256) : ∃ i, i < 255 ∧ pow3 i = a := by
  have := allB_get chk_pow (a - 1) (by omega)
  rw [show a - 1 + 1 = a by omega] at this
  obtain ⟨i, hi, he⟩ := powIs_get 255 0 this
  exact ⟨i, by omega, he⟩

theorem gm_zero (b : Nat) : gm 0 b = 0 := by
  have : ∀ b, g0 0 b = 0 := fun b => Nat.mul_zero _
  have x0 : xt 0 = 0 := by decide
  rw [gm_nat, x0, x0, x0, x0, x0, x0, x0]
  simp [this]
theorem gm_pow (n : Nat) {b c : Nat} (hb : b < 256) (hc : c < 256) : gm (gm (pow3 n) b) c = gm (pow3 n) (gm b c) := by
  induction n with
  | zero => show gm (gm 1 b) c = gm 1 (gm b c); rw [gm_one hb, gm_one (gm_lt hb)]
  | succ n ih =>
    show gm (gm (m3 (pow3 n)) b) c = gm (m3 (pow3 n)) (gm b c)
    rw [gm_m3 (pow3_lt n) hb, gm_m3 (gm_lt (pow3_lt n)) hc, ih, gm_m3 (pow3_lt n) (gm_lt hb)]
theorem gm_assoc {a b c : Nat} (ha : a < 256) (hb : b < 256) (hc : c < 256) : gm (gm a b) c = gm a (gm b c) := by
  by_cases h : a = 0
  · subst h; rw [gm_zero, gm_zero, gm_zero]
  · obtain ⟨i, _, rfl⟩ := pow3_of h ha
    exact gm_pow i hb hc
theorem pow3_add (m n : Nat) : gm (pow3 m) (pow3 n) = pow3 (m + n) := by
  induction m with
  | zero => rw [Nat.zero_add]; exact gm_one (pow3_lt n)
  | succ m ih =>
    show gm (m3 (pow3 m)) (pow3 n) = _
    rw [gm_m3 (pow3_lt m) (pow3_lt n), ih, show m + 1 + n = (m + n) + 1 by omega]; rfl
theorem pow3_255 : pow3 255 = 1 := by decide +kernel
theorem inv_of {a : Nat} (h0 : a ≠ 0) (h : a < 256) : ∃ b, b < 256 ∧ b ≠ 0 ∧ gm a b = 1 := by
  obtain ⟨i, hi, rfl⟩ := pow3_of h0 h
  refine ⟨pow3 (255 - i), pow3_lt _, ?_, ?_⟩
  · intro hz
    have := pow3_add i (255 - i)
    rw [hz, gm_comm (pow3_lt _) (by omega), gm_zero, show i + (255 - i) = 255 by omega, pow3_255] at this
    exact absurd this (by decide)
  · rw [pow3_add, show i + (255 - i) = 255 by omega, pow3_255]
/-- The product over the first n bits of b. -/
def gmR : Nat → Nat → Nat → Nat
  | 0, _, _ => 0
  | n + 1, a, b => g0 a b ^^^ gmR n (xt a) (b / 2)
theorem gmR_eq (a b : Nat) : gmR 8 a b = gm a b := by
  rw [gm_nat]
  simp only [gmR, Nat.div_div_eq_div_mul, Nat.xor_zero]
theorem gmR_zero : ∀ n a, gmR n a 0 = 0
  | 0, _ => rfl
  | n + 1, a => by
    show g0 a 0 ^^^ gmR n (xt a) 0 = 0
    rw [gmR_zero n]; show 0 % 2 * a ^^^ 0 = 0; simp

/-- a to the power n, as the program makes it. -/
def ip (a : Nat) : Nat → Nat
  | 0 => 1
  | n + 1 => gm (ip a n) a
theorem ip_lt {a : Nat} : ∀ n, ip a n < 256
  | 0 => by show 1 < 256; omega
  | n + 1 => gm_lt (ip_lt n)
theorem ip_pow3 (i : Nat) : ∀ n, ip (pow3 i) n = pow3 (i * n)
  | 0 => rfl
  | n + 1 => by show gm (ip (pow3 i) n) (pow3 i) = _; rw [ip_pow3 i n, pow3_add]; rfl
theorem pow3_mul255 : ∀ i, pow3 (255 * i) = 1
  | 0 => rfl
  | i + 1 => by rw [show 255 * (i + 1) = 255 * i + 255 by omega, ← pow3_add, pow3_mul255 i, pow3_255]; exact gm_one (by omega)
theorem gm_inv {a : Nat} (h0 : a ≠ 0) (h : a < 256) : gm a (ip a 254) = 1 := by
  obtain ⟨i, hi, rfl⟩ := pow3_of h0 h
  rw [ip_pow3, pow3_add, show i + i * 254 = 255 * i by omega, pow3_mul255]
theorem inv_unique {a b c : Nat} (ha : a < 256) (hb : b < 256) (hc : c < 256) (h : gm a b = 1) (h' : gm a c = 1) : b = c := by
  have : gm (gm b a) c = gm b (gm a c) := gm_assoc hb ha hc
  rw [gm_comm hb ha, h, h', gm_one hc, gm_comm hb (by omega), gm_one hb] at this
  exact this.symm
theorem gm_eq_zero {a b : Nat} (ha : a < 256) (hb : b < 256) (h : gm a b = 0) : a = 0 ∨ b = 0 := by
  by_cases h0 : a = 0
  · exact .inl h0
  · right
    have h1 := gm_inv h0 ha
    have : gm (gm (ip a 254) a) b = gm (ip a 254) (gm a b) := gm_assoc (ip_lt _) ha hb
    rw [gm_comm (ip_lt _) ha, h1, h, gm_one hb, gm_comm (ip_lt _) (by omega), gm_zero] at this
    exact this
theorem ip_ne {a : Nat} (h0 : a ≠ 0) (h : a < 256) : ip a 254 ≠ 0 := by
  intro hz
  have := gm_inv h0 h
  rw [hz, gm_comm h (by omega), gm_zero] at this
  exact absurd this (by decide)
theorem gm_xor_right {a b c : Nat} (ha : a < 256) (hb : b < 256) (hc : c < 256) : gm a (b ^^^ c) = gm a b ^^^ gm a c := by
  rw [gm_comm ha (xor_lt hb hc), gm_xor a hb hc, gm_comm hb ha, gm_comm hc ha]
theorem gm_two {a : Nat} (h : a < 256) : gm a 2 = xt a := by
  rw [gm_comm h (by omega), show (2 : Nat) = xt 1 by decide, gm_xt (by omega) h, gm_one h]
theorem xt_small {a : Nat} (h : a < 128) : xt a = 2 * a := by
  show 2 * a ^^^ 283 * (a / 128) = 2 * a
  rw [show a / 128 = 0 by omega]; simp
theorem xt_great {a : Nat} (h : 128 ≤ a) (h' : a < 256) : xt a = 2 * a ^^^ 283 := by
  show 2 * a ^^^ 283 * (a / 128) = 2 * a ^^^ 283
  rw [show a / 128 = 1 by omega]
theorem chk_27 : (allB 256 fun a => Nat.blt a 128 || Nat.beq (xt a) (Nat.xor (Nat.mod (Nat.mul a 2) 256) 27)) = true := by decide +kernel
theorem xt_27 {a : Nat} (h : 128 ≤ a) (h' : a < 256) : xt a = a * 2 % 256 ^^^ 27 := by
  have := allB_get chk_27 a h'
  rw [Bool.or_eq_true] at this
  rcases this with h1 | h1
  · have h2 : a < 128 := by simpa using h1
    omega
  · exact Nat.eq_of_beq_eq_true h1
theorem and128 {a : Nat} (h : a < 256) : a &&& 128 = if 128 ≤ a then 128 else 0 := by
  have : (allB 256 fun a => Nat.beq (Nat.land a 128) (cond (Nat.ble 128 a) 128 0)) = true := by decide +kernel
  have h1 := Nat.eq_of_beq_eq_true (allB_get this a h)
  have h2 : a &&& 128 = cond (Nat.ble 128 a) 128 0 := h1
  rw [h2]
  by_cases h3 : 128 ≤ a
  · rw [if_pos h3, show Nat.ble 128 a = true by simpa using h3]; rfl
  · rw [if_neg h3, show Nat.ble 128 a = false from Bool.eq_false_iff.2 (fun h => h3 (Nat.le_of_ble_eq_true h))]; rfl
theorem g0_odd {a b : Nat} (h : b % 2 = 1) : g0 a b = a := by show b % 2 * a = a; rw [h]; omega
theorem g0_even {a b : Nat} (h : b % 2 = 0) : g0 a b = 0 := by show b % 2 * a = 0; rw [h]; omega
end Go.Proofs.YtffhfmaphjjffaaDoor.Gf
