/- Words of 8, 32 and 64 bits: how the walk's spelling of an operation on them reads as Lean's own. -/
import Derived.Test.YthalpgandfbkdaaBase
namespace Go.Proofs.Ythalpgandfbkdaa.Base
open Go.RowKit Go.Lib
set_option linter.unusedVariables false
set_option linter.unusedSimpArgs false

theorem or_nat (x y n : Nat) (hx : x < 2 ^ n) (hy : y < 2 ^ n) : x ||| y < 2 ^ n := Nat.or_lt_two_pow hx hy
theorem xor_nat (x y n : Nat) (hx : x < 2 ^ n) (hy : y < 2 ^ n) : x ^^^ y < 2 ^ n := Nat.xor_lt_two_pow hx hy

theorem ofInt_nat (n x : Nat) (h : x < 2 ^ n) : (BitVec.ofInt n (x : Int)).toNat = x := by
  simp [Nat.mod_eq_of_lt h]

section u32
theorem wrap32_nat (n : Nat) (h : n < 4294967296) : IntKind.u32.wrap (n : Int) = n := by simp [IntKind.wrap, IntKind.bits, IntKind.signed]; omega
theorem wrap64_nat (n : Nat) (h : n < 18446744073709551616) : IntKind.u64.wrap (n : Int) = n := by simp [IntKind.wrap, IntKind.bits, IntKind.signed]; omega
theorem wrap8_nat (n : Nat) (h : n < 256) : IntKind.u8.wrap (n : Int) = n := by simp [IntKind.wrap, IntKind.bits, IntKind.signed]; omega
theorem wrapI_nat (n : Nat) (h : n < 9223372036854775808) : IntKind.i64.wrap (n : Int) = n := IntWalk.i64_in _ (by omega)
theorem bits32_or (x y : Nat) (hx : x < 4294967296) (hy : y < 4294967296) : bits .or .u32 x y = ((x ||| y : Nat) : Int) := by
  have h : x ||| y < 2 ^ 32 := Nat.or_lt_two_pow hx hy
  have key : (BitVec.ofInt 32 (x : Int) ||| BitVec.ofInt 32 (y : Int)).toNat = x ||| y := by rw [BitVec.toNat_or, ofInt_nat 32 x (by omega), ofInt_nat 32 y (by omega)]
  show IntKind.u32.wrap (((BitVec.ofInt 32 (x : Int) ||| BitVec.ofInt 32 (y : Int)).toNat : Nat) : Int) = _
  rw [key, wrap32_nat _ h]
theorem bits32_xor (x y : Nat) (hx : x < 4294967296) (hy : y < 4294967296) : bits .xor .u32 x y = ((x ^^^ y : Nat) : Int) := by
  have h : x ^^^ y < 2 ^ 32 := Nat.xor_lt_two_pow hx hy
  have key : (BitVec.ofInt 32 (x : Int) ^^^ BitVec.ofInt 32 (y : Int)).toNat = x ^^^ y := by rw [BitVec.toNat_xor, ofInt_nat 32 x (by omega), ofInt_nat 32 y (by omega)]
  show IntKind.u32.wrap (((BitVec.ofInt 32 (x : Int) ^^^ BitVec.ofInt 32 (y : Int)).toNat : Nat) : Int) = _
  rw [key, wrap32_nat _ h]
theorem bits32_and (x y : Nat) (hx : x < 4294967296) (hy : y < 4294967296) : bits .and .u32 x y = ((x &&& y : Nat) : Int) := by
  have h : x &&& y < 2 ^ 32 := Nat.and_lt_two_pow x hy
  have key : (BitVec.ofInt 32 (x : Int) &&& BitVec.ofInt 32 (y : Int)).toNat = x &&& y := by rw [BitVec.toNat_and, ofInt_nat 32 x (by omega), ofInt_nat 32 y (by omega)]
  show IntKind.u32.wrap (((BitVec.ofInt 32 (x : Int) &&& BitVec.ofInt 32 (y : Int)).toNat : Nat) : Int) = _
  rw [key, wrap32_nat _ h]
theorem bits64_or (x y : Nat) (hx : x < 18446744073709551616) (hy : y < 18446744073709551616) : bits .or .u64 x y = ((x ||| y : Nat) : Int) := by
  have h : x ||| y < 2 ^ 64 := Nat.or_lt_two_pow hx hy
  have key : (BitVec.ofInt 64 (x : Int) ||| BitVec.ofInt 64 (y : Int)).toNat = x ||| y := by rw [BitVec.toNat_or, ofInt_nat 64 x (by omega), ofInt_nat 64 y (by omega)]
  show IntKind.u64.wrap (((BitVec.ofInt 64 (x : Int) ||| BitVec.ofInt 64 (y : Int)).toNat : Nat) : Int) = _
  rw [key, wrap64_nat _ h]
theorem bits64_xor (x y : Nat) (hx : x < 18446744073709551616) (hy : y < 18446744073709551616) : bits .xor .u64 x y = ((x ^^^ y : Nat) : Int) := by
  have h : x ^^^ y < 2 ^ 64 := Nat.xor_lt_two_pow hx hy
  have key : (BitVec.ofInt 64 (x : Int) ^^^ BitVec.ofInt 64 (y : Int)).toNat = x ^^^ y := by rw [BitVec.toNat_xor, ofInt_nat 64 x (by omega), ofInt_nat 64 y (by omega)]
  show IntKind.u64.wrap (((BitVec.ofInt 64 (x : Int) ^^^ BitVec.ofInt 64 (y : Int)).toNat : Nat) : Int) = _
  rw [key, wrap64_nat _ h]
theorem bits64_and (x y : Nat) (hx : x < 18446744073709551616) (hy : y < 18446744073709551616) : bits .and .u64 x y = ((x &&& y : Nat) : Int) := by
  have h : x &&& y < 2 ^ 64 := Nat.and_lt_two_pow x hy
  have key : (BitVec.ofInt 64 (x : Int) &&& BitVec.ofInt 64 (y : Int)).toNat = x &&& y := by rw [BitVec.toNat_and, ofInt_nat 64 x (by omega), ofInt_nat 64 y (by omega)]
  show IntKind.u64.wrap (((BitVec.ofInt 64 (x : Int) &&& BitVec.ofInt 64 (y : Int)).toNat : Nat) : Int) = _
  rw [key, wrap64_nat _ h]
theorem bits8_or (x y : Nat) (hx : x < 256) (hy : y < 256) : bits .or .u8 x y = ((x ||| y : Nat) : Int) := by
  have h : x ||| y < 2 ^ 8 := Nat.or_lt_two_pow hx hy
  have key : (BitVec.ofInt 8 (x : Int) ||| BitVec.ofInt 8 (y : Int)).toNat = x ||| y := by rw [BitVec.toNat_or, ofInt_nat 8 x (by omega), ofInt_nat 8 y (by omega)]
  show IntKind.u8.wrap (((BitVec.ofInt 8 (x : Int) ||| BitVec.ofInt 8 (y : Int)).toNat : Nat) : Int) = _
  rw [key, wrap8_nat _ h]
theorem bits8_xor (x y : Nat) (hx : x < 256) (hy : y < 256) : bits .xor .u8 x y = ((x ^^^ y : Nat) : Int) := by
  have h : x ^^^ y < 2 ^ 8 := Nat.xor_lt_two_pow hx hy
  have key : (BitVec.ofInt 8 (x : Int) ^^^ BitVec.ofInt 8 (y : Int)).toNat = x ^^^ y := by rw [BitVec.toNat_xor, ofInt_nat 8 x (by omega), ofInt_nat 8 y (by omega)]
  show IntKind.u8.wrap (((BitVec.ofInt 8 (x : Int) ^^^ BitVec.ofInt 8 (y : Int)).toNat : Nat) : Int) = _
  rw [key, wrap8_nat _ h]
theorem bits8_and (x y : Nat) (hx : x < 256) (hy : y < 256) : bits .and .u8 x y = ((x &&& y : Nat) : Int) := by
  have h : x &&& y < 2 ^ 8 := Nat.and_lt_two_pow x hy
  have key : (BitVec.ofInt 8 (x : Int) &&& BitVec.ofInt 8 (y : Int)).toNat = x &&& y := by rw [BitVec.toNat_and, ofInt_nat 8 x (by omega), ofInt_nat 8 y (by omega)]
  show IntKind.u8.wrap (((BitVec.ofInt 8 (x : Int) &&& BitVec.ofInt 8 (y : Int)).toNat : Nat) : Int) = _
  rw [key, wrap8_nat _ h]
theorem bitsI_or (x y : Nat) (hx : x < 9223372036854775808) (hy : y < 9223372036854775808) : bits .or .i64 x y = ((x ||| y : Nat) : Int) := by
  have h : x ||| y < 2 ^ 63 := Nat.or_lt_two_pow hx hy
  have key : (BitVec.ofInt 64 (x : Int) ||| BitVec.ofInt 64 (y : Int)).toNat = x ||| y := by rw [BitVec.toNat_or, ofInt_nat 64 x (by omega), ofInt_nat 64 y (by omega)]
  show IntKind.i64.wrap (((BitVec.ofInt 64 (x : Int) ||| BitVec.ofInt 64 (y : Int)).toNat : Nat) : Int) = _
  rw [key, wrapI_nat _ h]
theorem bitsI_xor (x y : Nat) (hx : x < 9223372036854775808) (hy : y < 9223372036854775808) : bits .xor .i64 x y = ((x ^^^ y : Nat) : Int) := by
  have h : x ^^^ y < 2 ^ 63 := Nat.xor_lt_two_pow hx hy
  have key : (BitVec.ofInt 64 (x : Int) ^^^ BitVec.ofInt 64 (y : Int)).toNat = x ^^^ y := by rw [BitVec.toNat_xor, ofInt_nat 64 x (by omega), ofInt_nat 64 y (by omega)]
  show IntKind.i64.wrap (((BitVec.ofInt 64 (x : Int) ^^^ BitVec.ofInt 64 (y : Int)).toNat : Nat) : Int) = _
  rw [key, wrapI_nat _ h]
theorem bitsI_and (x y : Nat) (hx : x < 9223372036854775808) (hy : y < 9223372036854775808) : bits .and .i64 x y = ((x &&& y : Nat) : Int) := by
  have h : x &&& y < 2 ^ 63 := Nat.and_lt_two_pow x hy
  have key : (BitVec.ofInt 64 (x : Int) &&& BitVec.ofInt 64 (y : Int)).toNat = x &&& y := by rw [BitVec.toNat_and, ofInt_nat 64 x (by omega), ofInt_nat 64 y (by omega)]
  show IntKind.i64.wrap (((BitVec.ofInt 64 (x : Int) &&& BitVec.ofInt 64 (y : Int)).toNat : Nat) : Int) = _
  rw [key, wrapI_nat _ h]
end u32

/-- x turned n places towards the high end (0 < n < 32). -/
def rotl (x : UInt32) (n : Nat) : UInt32 := ⟨x.toBitVec.rotateLeft n⟩

theorem rotl_nat (x : UInt32) (n : Nat) (h0 : 0 < n) (hn : n < 32) : (rotl x n).toNat = (x.toNat * 2 ^ n % 4294967296) ||| (x.toNat / 2 ^ (32 - n)) := by
  show (x.toBitVec.rotateLeft n).toNat = _
  rw [BitVec.toNat_rotateLeft, Nat.mod_eq_of_lt hn, Nat.shiftLeft_eq, Nat.shiftRight_eq_div_pow]
  rfl

theorem rotl_walk (x : UInt32) (n : Nat) (h0 : 0 < n) (hn : n < 32) : bits .or .u32 ((x.toNat : Int) * 2 ^ n % 4294967296) ((x.toNat : Int) / 2 ^ (32 - n)) = ((rotl x n).toNat : Int) := by
  have e1 : (x.toNat : Int) * 2 ^ n % 4294967296 = ((x.toNat * 2 ^ n % 4294967296 : Nat) : Int) := by simp
  have e2 : (x.toNat : Int) / 2 ^ (32 - n) = ((x.toNat / 2 ^ (32 - n) : Nat) : Int) := by simp
  have hx := x.toNat_lt
  rw [e1, e2, bits32_or _ _ (Nat.mod_lt _ (by omega)) (Nat.lt_of_le_of_lt (Nat.div_le_self _ _) hx), rotl_nat x n h0 hn]

/-- A word as a whole number: a plain definition, so that the walk lays nothing of it open. -/
def wd (x : UInt32) : Int := x.toNat
theorem wd_nat (x : UInt32) : wd x = (x.toNat : Int) := rfl
theorem wd_lt (x : UInt32) : 0 ≤ wd x ∧ wd x < 4294967296 := by unfold wd; have := x.toNat_lt; omega
theorem wd_inj {x y : UInt32} (h : wd x = wd y) : x = y := by unfold wd at h; exact UInt32.toNat_inj.1 (by omega)
theorem wd_beq (x y : UInt32) : (wd x == wd y) = (x == y) := by
  rw [Bool.eq_iff_iff, beq_iff_eq, beq_iff_eq]
  exact ⟨wd_inj, fun h => by rw [h]⟩

@[go_sem high] theorem wd_i64 (x : UInt32) : IntKind.i64.wrap (wd x) = wd x := by
  have := wd_lt x; exact IntWalk.i64_in _ (by omega)
@[go_sem high] theorem wd_u32 (x : UInt32) : IntKind.u32.wrap (wd x) = wd x := wrap32_nat _ x.toNat_lt
@[go_sem high] theorem wd_u64 (x : UInt32) : IntKind.u64.wrap (wd x) = wd x := wrap64_nat _ (by have := x.toNat_lt; omega)
@[go_sem] theorem wd_neg_no (x : UInt32) : (wd x < 0) = False := by have := wd_lt x; simp; omega
@[go_sem] theorem wd_top_no (x : UInt32) : (4294967295 < wd x) = False := by have := wd_lt x; simp; omega
@[go_sem] theorem wd_pos_yes (x : UInt32) : (0 ≤ wd x) = True := by have := wd_lt x; simp; omega
@[go_sem] theorem wd_word_yes (x : UInt32) : (wd x < 4294967296) = True := by have := wd_lt x; simp; omega
/-- A number in a word's range is a word. -/
theorem wd_of {n : Int} (h0 : 0 ≤ n) (h1 : n < 4294967296) : ∃ x : UInt32, n = wd x := by
  refine ⟨UInt32.ofNat n.toNat, ?_⟩
  unfold wd
  rw [UInt32.toNat_ofNat_of_lt' (by show n.toNat < 4294967296; omega)]
  omega

section
variable (t : TypeId) (a b : UInt32)
theorem w32_add : IntKind.u32.wrap (wd a + wd b) = wd (a + b) := by
  unfold wd; rw [UInt32.toNat_add]; simp [IntKind.wrap, IntKind.bits, IntKind.signed]
theorem w32_xor : bits .xor .u32 (wd a) (wd b) = wd (a ^^^ b) := by
  unfold wd; rw [bits32_xor _ _ a.toNat_lt b.toNat_lt, UInt32.toNat_xor]
theorem w32_or : bits .or .u32 (wd a) (wd b) = wd (a ||| b) := by
  unfold wd; rw [bits32_or _ _ a.toNat_lt b.toNat_lt, UInt32.toNat_or]
theorem w32_and : bits .and .u32 (wd a) (wd b) = wd (a &&& b) := by
  unfold wd; rw [bits32_and _ _ a.toNat_lt b.toNat_lt, UInt32.toNat_and]
theorem wI_xor : bits .xor .i64 (wd a) (wd b) = wd (a ^^^ b) := by
  unfold wd; have := a.toNat_lt; have := b.toNat_lt; rw [bitsI_xor _ _ (by omega) (by omega), UInt32.toNat_xor]
theorem wI_and : bits .and .i64 (wd a) (wd b) = wd (a &&& b) := by
  unfold wd; have := a.toNat_lt; have := b.toNat_lt; rw [bitsI_and _ _ (by omega) (by omega), UInt32.toNat_and]
theorem wI_add : IntKind.i64.wrap (wd a + wd b) = wd a + wd b := by
  have := wd_lt a; have := wd_lt b; exact IntWalk.i64_in _ (by omega)
theorem wd_add_mod : (wd a + wd b) % 4294967296 = wd (a + b) := by
  unfold wd; rw [UInt32.toNat_add]; simp
@[go_sem high] theorem binOp_add32 : binOp .add t (.int .u32 (wd a)) (.int .u32 (wd b)) = pure (.int .u32 (wd (a + b))) := by
  rw [binOp_add, ← w32_add]; rfl
@[go_sem high] theorem binOp_xor32 : binOp .xor t (.int .u32 (wd a)) (.int .u32 (wd b)) = pure (.int .u32 (wd (a ^^^ b))) := by
  rw [← w32_xor]; simp [binOp, intBits_xor]
@[go_sem high] theorem binOp_or32 : binOp .or t (.int .u32 (wd a)) (.int .u32 (wd b)) = pure (.int .u32 (wd (a ||| b))) := by
  rw [← w32_or]; simp [binOp, intBits_or]
@[go_sem high] theorem binOp_and32 : binOp .and t (.int .u32 (wd a)) (.int .u32 (wd b)) = pure (.int .u32 (wd (a &&& b))) := by
  rw [← w32_and]; simp [binOp, intBits_and]
@[go_sem high] theorem binOp_xorI : binOp .xor t (.int .i64 (wd a)) (.int .i64 (wd b)) = pure (.int .i64 (wd (a ^^^ b))) := by
  rw [← wI_xor]; simp [binOp, intBits_xor]
@[go_sem high] theorem binOp_andI : binOp .and t (.int .i64 (wd a)) (.int .i64 (wd b)) = pure (.int .i64 (wd (a &&& b))) := by
  rw [← wI_and]; simp [binOp, intBits_and]
@[go_sem high] theorem binOp_addI : binOp .add t (.int .i64 (wd a)) (.int .i64 (wd b)) = pure (.int .i64 (wd a + wd b)) := by
  rw [binOp_add]; show pure (Value.int .i64 (IntKind.i64.wrap (wd a + wd b))) = _; rw [wI_add]
@[go_sem high] theorem binOp_remI : binOp .rem t (.int .i64 (wd a + wd b)) (.int .i64 4294967296) = pure (.int .i64 (wd (a + b))) := by
  have h1 := wd_lt a
  have h2 := wd_lt b
  rw [← wd_add_mod]
  simp [binOp, Op.intDiv]
  have h3 : 0 ≤ wd a + wd b := by omega
  rw [Int.tmod_eq_emod_of_nonneg h3]
end
end Go.Proofs.Ythalpgandfbkdaa.Base
