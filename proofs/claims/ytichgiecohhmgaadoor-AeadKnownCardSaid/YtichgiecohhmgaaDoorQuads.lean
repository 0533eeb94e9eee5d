/- Words of 64 bits: how the walk's spelling of an operation on them reads as Lean's own. -/
import Derived.Test.YtichgiecohhmgaaDoorBytes
namespace Go.Proofs.YtichgiecohhmgaaDoor.Base
open Go.RowKit Go.Lib
set_option linter.unusedVariables false
set_option linter.unusedSimpArgs false

/-- A word of 64 bits as a whole number: a plain definition, so that the walk lays nothing of it open. -/
def qd (x : UInt64) : Int := x.toNat
theorem qd_lt (x : UInt64) : 0 ≤ qd x ∧ qd x < 18446744073709551616 := by unfold qd; have := x.toNat_lt; omega
theorem qd_inj {x y : UInt64} (h : qd x = qd y) : x = y := by unfold qd at h; exact UInt64.toNat_inj.1 (by omega)
@[go_sem high] theorem qd_u64 (x : UInt64) : IntKind.u64.wrap (qd x) = qd x := wrap64_nat _ x.toNat_lt
@[go_sem high] theorem qd_u8 (x : UInt64) : IntKind.u8.wrap (qd x) = bt x.toUInt8 := by
  unfold qd bt; simp [IntKind.wrap, IntKind.bits, IntKind.signed]
@[go_sem high] theorem u64_byte (b : UInt8) : IntKind.u64.wrap (b.toNat : Int) = qd b.toUInt64 := by
  unfold qd; rw [wrap64_nat _ (by have := b.toNat_lt; omega)]; simp
@[go_sem high] theorem u64_bt (b : UInt8) : IntKind.u64.wrap (bt b) = qd b.toUInt64 := u64_byte b
section
variable (t : TypeId) (a b : UInt64)
@[go_sem high] theorem binOp_add64 : binOp .add t (.int .u64 (qd a)) (.int .u64 (qd b)) = pure (.int .u64 (qd (a + b))) := by
  have e : IntKind.u64.wrap (qd a + qd b) = qd (a + b) := by unfold qd; rw [UInt64.toNat_add]; simp [IntKind.wrap, IntKind.bits, IntKind.signed]
  rw [binOp_add, ← e]; rfl
@[go_sem high] theorem binOp_mul64 : binOp .mul t (.int .u64 (qd a)) (.int .u64 (qd b)) = pure (.int .u64 (qd (a * b))) := by
  have e : IntKind.u64.wrap (qd a * qd b) = qd (a * b) := by unfold qd; rw [UInt64.toNat_mul]; simp [IntKind.wrap, IntKind.bits, IntKind.signed]
  rw [binOp_mul, ← e]; rfl
@[go_sem high] theorem binOp_mul5 : binOp .mul t (.int .u64 (qd a)) (.int .u64 5) = pure (.int .u64 (qd (a * 5))) := binOp_mul64 t a 5
@[go_sem high] theorem binOp_add5 : binOp .add t (.int .u64 (qd a)) (.int .u64 5) = pure (.int .u64 (qd (a + 5))) := binOp_add64 t a 5
@[go_sem high] theorem binOp_or64 : binOp .or t (.int .u64 (qd a)) (.int .u64 (qd b)) = pure (.int .u64 (qd (a ||| b))) := by
  have e : bits .or .u64 (qd a) (qd b) = qd (a ||| b) := by unfold qd; rw [bits64_or _ _ a.toNat_lt b.toNat_lt, UInt64.toNat_or]
  rw [← e]; simp [binOp, intBits_or]
@[go_sem high] theorem binOp_and64 : binOp .and t (.int .u64 (qd a)) (.int .u64 (qd b)) = pure (.int .u64 (qd (a &&& b))) := by
  have e : bits .and .u64 (qd a) (qd b) = qd (a &&& b) := by unfold qd; rw [bits64_and _ _ a.toNat_lt b.toNat_lt, UInt64.toNat_and]
  rw [← e]; simp [binOp, intBits_and]
@[go_sem high] theorem binOp_mask : binOp .and t (.int .u64 (qd a)) (.int .u64 67108863) = pure (.int .u64 (qd (a &&& 67108863))) := binOp_and64 t a 67108863
theorem or64 : bits .or .u64 (qd a) (qd b) = qd (a ||| b) := by unfold qd; rw [bits64_or _ _ a.toNat_lt b.toNat_lt, UInt64.toNat_or]
theorem shl64_wrap (n : Nat) (h : n < 64) : IntKind.u64.wrap (qd a * 2 ^ n) = qd (a <<< UInt64.ofNat n) := by
  unfold qd
  rw [UInt64.toNat_shiftLeft, UInt64.toNat_ofNat_of_lt' (by show n < 18446744073709551616; omega), Nat.mod_eq_of_lt h, Nat.shiftLeft_eq]
  simp [IntKind.wrap, IntKind.bits, IntKind.signed]
theorem shr64_div (n : Nat) (h : n < 64) : qd a / 2 ^ n = qd (a >>> UInt64.ofNat n) := by
  unfold qd
  rw [UInt64.toNat_shiftRight, UInt64.toNat_ofNat_of_lt' (by show n < 18446744073709551616; omega), Nat.mod_eq_of_lt h, Nat.shiftRight_eq_div_pow]
  simp
theorem shl64_any (n : Nat) (h : n < 64) (k : IntKind) (hk : k = .u64 ∨ k = .i64) : binOp .shl t (.int .u64 (qd a)) (.int k (n : Int)) = pure (.int .u64 (qd (a <<< UInt64.ofNat n))) := by
  have e : IntKind.u64.wrap (qd a * 2 ^ n) = qd (a <<< UInt64.ofNat n) := by
    unfold qd
    rw [UInt64.toNat_shiftLeft, UInt64.toNat_ofNat_of_lt' (by show n < 18446744073709551616; omega), Nat.mod_eq_of_lt h, Nat.shiftLeft_eq]
    simp [IntKind.wrap, IntKind.bits, IntKind.signed]
  rw [binOp_shl, ← e]
  have hm : min n 64 = n := by omega
  rcases hk with rfl | rfl <;> simp [Op.shift, IntKind.bits, hm]
theorem shr64_any (n : Nat) (h : n < 64) (k : IntKind) (hk : k = .u64 ∨ k = .i64) : binOp .shr t (.int .u64 (qd a)) (.int k (n : Int)) = pure (.int .u64 (qd (a >>> UInt64.ofNat n))) := by
  have e : qd a / 2 ^ n = qd (a >>> UInt64.ofNat n) := by
    unfold qd
    rw [UInt64.toNat_shiftRight, UInt64.toNat_ofNat_of_lt' (by show n < 18446744073709551616; omega), Nat.mod_eq_of_lt h, Nat.shiftRight_eq_div_pow]
    simp
  rw [binOp_shr, ← e]
  have hm : min n 64 = n := by omega
  rcases hk with rfl | rfl <;> simp [Op.shift, IntKind.bits, hm]
@[go_sem high] theorem shl64_12_u64 : binOp .shl t (.int .u64 (qd a)) (.int .u64 12) = pure (.int .u64 (qd (a <<< 12))) := shl64_any t a 12 (by omega) .u64 (by simp)
@[go_sem high] theorem shr64_12_u64 : binOp .shr t (.int .u64 (qd a)) (.int .u64 12) = pure (.int .u64 (qd (a >>> 12))) := shr64_any t a 12 (by omega) .u64 (by simp)
@[go_sem high] theorem shl64_12_i64 : binOp .shl t (.int .u64 (qd a)) (.int .i64 12) = pure (.int .u64 (qd (a <<< 12))) := shl64_any t a 12 (by omega) .i64 (by simp)
@[go_sem high] theorem shr64_12_i64 : binOp .shr t (.int .u64 (qd a)) (.int .i64 12) = pure (.int .u64 (qd (a >>> 12))) := shr64_any t a 12 (by omega) .i64 (by simp)
@[go_sem high] theorem shl64_14_u64 : binOp .shl t (.int .u64 (qd a)) (.int .u64 14) = pure (.int .u64 (qd (a <<< 14))) := shl64_any t a 14 (by omega) .u64 (by simp)
@[go_sem high] theorem shr64_14_u64 : binOp .shr t (.int .u64 (qd a)) (.int .u64 14) = pure (.int .u64 (qd (a >>> 14))) := shr64_any t a 14 (by omega) .u64 (by simp)
@[go_sem high] theorem shl64_14_i64 : binOp .shl t (.int .u64 (qd a)) (.int .i64 14) = pure (.int .u64 (qd (a <<< 14))) := shl64_any t a 14 (by omega) .i64 (by simp)
@[go_sem high] theorem shr64_14_i64 : binOp .shr t (.int .u64 (qd a)) (.int .i64 14) = pure (.int .u64 (qd (a >>> 14))) := shr64_any t a 14 (by omega) .i64 (by simp)
@[go_sem high] theorem shl64_24_u64 : binOp .shl t (.int .u64 (qd a)) (.int .u64 24) = pure (.int .u64 (qd (a <<< 24))) := shl64_any t a 24 (by omega) .u64 (by simp)
@[go_sem high] theorem shr64_24_u64 : binOp .shr t (.int .u64 (qd a)) (.int .u64 24) = pure (.int .u64 (qd (a >>> 24))) := shr64_any t a 24 (by omega) .u64 (by simp)
@[go_sem high] theorem shl64_24_i64 : binOp .shl t (.int .u64 (qd a)) (.int .i64 24) = pure (.int .u64 (qd (a <<< 24))) := shl64_any t a 24 (by omega) .i64 (by simp)
@[go_sem high] theorem shr64_24_i64 : binOp .shr t (.int .u64 (qd a)) (.int .i64 24) = pure (.int .u64 (qd (a >>> 24))) := shr64_any t a 24 (by omega) .i64 (by simp)
@[go_sem high] theorem shl64_26_u64 : binOp .shl t (.int .u64 (qd a)) (.int .u64 26) = pure (.int .u64 (qd (a <<< 26))) := shl64_any t a 26 (by omega) .u64 (by simp)
@[go_sem high] theorem shr64_26_u64 : binOp .shr t (.int .u64 (qd a)) (.int .u64 26) = pure (.int .u64 (qd (a >>> 26))) := shr64_any t a 26 (by omega) .u64 (by simp)
@[go_sem high] theorem shl64_26_i64 : binOp .shl t (.int .u64 (qd a)) (.int .i64 26) = pure (.int .u64 (qd (a <<< 26))) := shl64_any t a 26 (by omega) .i64 (by simp)
@[go_sem high] theorem shr64_26_i64 : binOp .shr t (.int .u64 (qd a)) (.int .i64 26) = pure (.int .u64 (qd (a >>> 26))) := shr64_any t a 26 (by omega) .i64 (by simp)
@[go_sem high] theorem shl64_40_u64 : binOp .shl t (.int .u64 (qd a)) (.int .u64 40) = pure (.int .u64 (qd (a <<< 40))) := shl64_any t a 40 (by omega) .u64 (by simp)
@[go_sem high] theorem shr64_40_u64 : binOp .shr t (.int .u64 (qd a)) (.int .u64 40) = pure (.int .u64 (qd (a >>> 40))) := shr64_any t a 40 (by omega) .u64 (by simp)
@[go_sem high] theorem shl64_40_i64 : binOp .shl t (.int .u64 (qd a)) (.int .i64 40) = pure (.int .u64 (qd (a <<< 40))) := shl64_any t a 40 (by omega) .i64 (by simp)
@[go_sem high] theorem shr64_40_i64 : binOp .shr t (.int .u64 (qd a)) (.int .i64 40) = pure (.int .u64 (qd (a >>> 40))) := shr64_any t a 40 (by omega) .i64 (by simp)
@[go_sem high] theorem shl64_52_u64 : binOp .shl t (.int .u64 (qd a)) (.int .u64 52) = pure (.int .u64 (qd (a <<< 52))) := shl64_any t a 52 (by omega) .u64 (by simp)
@[go_sem high] theorem shr64_52_u64 : binOp .shr t (.int .u64 (qd a)) (.int .u64 52) = pure (.int .u64 (qd (a >>> 52))) := shr64_any t a 52 (by omega) .u64 (by simp)
@[go_sem high] theorem shl64_52_i64 : binOp .shl t (.int .u64 (qd a)) (.int .i64 52) = pure (.int .u64 (qd (a <<< 52))) := shl64_any t a 52 (by omega) .i64 (by simp)
@[go_sem high] theorem shr64_52_i64 : binOp .shr t (.int .u64 (qd a)) (.int .i64 52) = pure (.int .u64 (qd (a >>> 52))) := shr64_any t a 52 (by omega) .i64 (by simp)
end
def qcells (l : List UInt64) : List Value := l.map fun x => .int .u64 (qd x)
theorem qcells_len (l : List UInt64) : (qcells l).length = l.length := by simp [qcells]
theorem qcells_get (s : List UInt64) (i : Nat) (h : i < s.length) : (qcells s)[i]? = some (.int .u64 (qd (s.getD i 0))) := by
  simp [qcells, List.getD, List.getElem?_eq_getElem h]
theorem qcells_set (s : List UInt64) (i : Nat) (x : UInt64) : (qcells s).set i (.int .u64 (qd x)) = qcells (s.set i x) := by
  simp [qcells, List.map_set]
end Go.Proofs.YtichgiecohhmgaaDoor.Base
