/- Words and bytes: shifts by whole bytes and the numbers' kinds turned into one another, as the walk spells them. -/
import Derived.Test.YthalpgandfbkdaaWords
namespace Go.Proofs.Ythalpgandfbkdaa.Base
open Go.RowKit Go.Lib
set_option linter.unusedVariables false
set_option linter.unusedSimpArgs false

section
variable (t : TypeId) (x : UInt32) (b : UInt8)
theorem shl_any (n : Nat) (h : n < 32) : binOp .shl t (.int .u32 (wd x)) (.int .u64 (n : Int)) = pure (.int .u32 (wd (x <<< UInt32.ofNat n))) := by
  rw [binOp_shl]
  have e : IntKind.u32.wrap (wd x * 2 ^ n) = wd (x <<< UInt32.ofNat n) := by
    unfold wd
    rw [UInt32.toNat_shiftLeft, UInt32.toNat_ofNat_of_lt' (by show n < 4294967296; omega), Nat.mod_eq_of_lt h, Nat.shiftLeft_eq]
    simp [IntKind.wrap, IntKind.bits, IntKind.signed]
  rw [← e]
  simp [Op.shift]
theorem shr_any (n : Nat) (h : n < 32) : binOp .shr t (.int .u32 (wd x)) (.int .u64 (n : Int)) = pure (.int .u32 (wd (x >>> UInt32.ofNat n))) := by
  rw [binOp_shr]
  have e : wd x / 2 ^ n = wd (x >>> UInt32.ofNat n) := by
    unfold wd
    rw [UInt32.toNat_shiftRight, UInt32.toNat_ofNat_of_lt' (by show n < 4294967296; omega), Nat.mod_eq_of_lt h, Nat.shiftRight_eq_div_pow]
    simp
  rw [← e]
  simp
@[go_sem high] theorem shl8 : binOp .shl t (.int .u32 (wd x)) (.int .u64 8) = pure (.int .u32 (wd (x <<< 8))) := shl_any t x 8 (by omega)
@[go_sem high] theorem shl16 : binOp .shl t (.int .u32 (wd x)) (.int .u64 16) = pure (.int .u32 (wd (x <<< 16))) := shl_any t x 16 (by omega)
@[go_sem high] theorem shl24 : binOp .shl t (.int .u32 (wd x)) (.int .u64 24) = pure (.int .u32 (wd (x <<< 24))) := shl_any t x 24 (by omega)
@[go_sem high] theorem shr8 : binOp .shr t (.int .u32 (wd x)) (.int .u64 8) = pure (.int .u32 (wd (x >>> 8))) := shr_any t x 8 (by omega)
@[go_sem high] theorem shr16 : binOp .shr t (.int .u32 (wd x)) (.int .u64 16) = pure (.int .u32 (wd (x >>> 16))) := shr_any t x 16 (by omega)
@[go_sem high] theorem shr24 : binOp .shr t (.int .u32 (wd x)) (.int .u64 24) = pure (.int .u32 (wd (x >>> 24))) := shr_any t x 24 (by omega)
@[go_sem high] theorem u32_byte : IntKind.u32.wrap (b.toNat : Int) = wd b.toUInt32 := by
  unfold wd; rw [wrap32_nat _ (by have := b.toNat_lt; omega)]; simp
@[go_sem high] theorem i64_byte : IntKind.i64.wrap (b.toNat : Int) = b.toNat := wrapI_nat _ (by have := b.toNat_lt; omega)
@[go_sem high] theorem u8_byte : IntKind.u8.wrap (b.toNat : Int) = b.toNat := wrap8_nat _ b.toNat_lt
/-- A byte as a whole number: a plain definition, as wd. -/
def bt (b : UInt8) : Int := b.toNat
@[go_sem high] theorem u8_word : IntKind.u8.wrap (wd x) = bt x.toUInt8 := by
  unfold wd bt; simp [IntKind.wrap, IntKind.bits, IntKind.signed]
end

/-- Four bytes, the lowest first, as a word. -/
def le4 (a b c d : UInt8) : UInt32 := a.toUInt32 ||| b.toUInt32 <<< 8 ||| c.toUInt32 <<< 16 ||| d.toUInt32 <<< 24
theorem or_add (x y n : Nat) (h : x < 2 ^ n) : x ||| (y <<< n) = x + y * 2 ^ n := by
  rw [Nat.or_comm, ← Nat.shiftLeft_add_eq_or_of_lt h, Nat.shiftLeft_eq, Nat.add_comm]
theorem le4_nat (a b c d : UInt8) : (le4 a b c d).toNat = a.toNat + 256 * b.toNat + 65536 * c.toNat + 16777216 * d.toNat := by
  have ha := a.toNat_lt; have hb := b.toNat_lt; have hc := c.toNat_lt; have hd := d.toNat_lt
  unfold le4
  rw [UInt32.toNat_or, UInt32.toNat_or, UInt32.toNat_or, UInt32.toNat_shiftLeft, UInt32.toNat_shiftLeft, UInt32.toNat_shiftLeft]
  simp only [UInt8.toNat_toUInt32, show (8 : UInt32).toNat % 32 = 8 from rfl, show (16 : UInt32).toNat % 32 = 16 from rfl, show (24 : UInt32).toNat % 32 = 24 from rfl]
  rw [Nat.mod_eq_of_lt (a := b.toNat <<< 8) (by rw [Nat.shiftLeft_eq]; omega), Nat.mod_eq_of_lt (a := c.toNat <<< 16) (by rw [Nat.shiftLeft_eq]; omega), Nat.mod_eq_of_lt (a := d.toNat <<< 24) (by rw [Nat.shiftLeft_eq]; omega),
    or_add _ _ 8 (by omega), or_add _ _ 16 (by omega), or_add _ _ 24 (by omega)]
  omega
theorem le4_wd (a b c d : UInt8) : wd (le4 a b c d) = (a.toNat : Int) + 256 * b.toNat + 65536 * c.toNat + 16777216 * d.toNat := by
  unfold wd; rw [le4_nat]; simp
/-- The bytes of a word, the lowest first. -/
def bytes4 (x : UInt32) : List UInt8 := [x.toUInt8, (x >>> 8).toUInt8, (x >>> 16).toUInt8, (x >>> 24).toUInt8]
/-- The words of a text. -/
def words : List UInt8 → List UInt32
  | a :: b :: c :: d :: r => le4 a b c d :: words r
  | _ => []
theorem words_len : ∀ (n : Nat) (l : List UInt8), l.length = 4 * n → (words l).length = n
  | 0, l, h => by obtain rfl := List.eq_nil_of_length_eq_zero (by simpa using h); rfl
  | n + 1, l, h => by
    match l, h with
    | a :: b :: c :: d :: r, h => simp only [words, List.length_cons]; rw [words_len n r (by simp at h; omega)]
    | [], h => simp at h
    | [_], h => simp at h; omega
    | [_, _], h => simp at h; omega
    | [_, _, _], h => simp at h; omega
theorem words_get : ∀ (i : Nat) (l : List UInt8), 4 * i + 4 ≤ l.length → ∃ a b c d r, l.drop (4 * i) = a :: b :: c :: d :: r ∧ (words l)[i]? = some (le4 a b c d)
  | 0, l, h => by
    match l, h with
    | a :: b :: c :: d :: r, _ => exact ⟨a, b, c, d, r, rfl, rfl⟩
    | [], h => simp at h
    | [_], h => simp at h
    | [_, _], h => simp at h
    | [_, _, _], h => simp at h
  | i + 1, l, h => by
    match l, h with
    | a :: b :: c :: d :: r, h =>
      obtain ⟨a', b', c', d', r', h1, h2⟩ := words_get i r (by simp at h; omega)
      exact ⟨a', b', c', d', r', by rw [show 4 * (i + 1) = 4 * i + 4 by omega]; exact h1, h2⟩
    | [], h => simp at h
    | [_], h => simp at h
    | [_, _], h => simp at h
    | [_, _, _], h => simp at h
theorem bget {s : ByteArray} {i : Nat} (h : i < s.size) {x : UInt8} (hs : s.data.toList[i]? = some x) : s[i] = x := by
  have e : s.data.toList[i]? = some (s[i]'h) := by
    rw [Array.getElem?_toList]
    exact Array.getElem?_eq_getElem _
  exact Option.some.inj (e.symm.trans hs)
end Go.Proofs.Ythalpgandfbkdaa.Base
