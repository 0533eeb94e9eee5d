/- The words of SHA-256: what the program's small functions do. -/
import Derived.Test.YtkagmoaapampgaaDoorRow
import Derived.Test.YtkagmoaapampgaaDoorShaP
import Derived.Test.YtkagmoaapampgaaDoorRows
namespace Go.Proofs.YtkagmoaapampgaaDoor
open Go.RowKit Go.Lib Base
set_option linter.unusedVariables false
set_option linter.unusedSimpArgs false

section
variable (t : TypeId) (x : UInt32)
@[go_sem high] theorem shr10 : binOp .shr t (.int .u32 (wd x)) (.int .u64 10) = pure (.int .u32 (wd (x >>> 10))) := shr_any t x 10 (by omega)
@[go_sem high] theorem shr3 : binOp .shr t (.int .u32 (wd x)) (.int .u64 3) = pure (.int .u32 (wd (x >>> 3))) := shr_any t x 3 (by omega)
end
/-- Four bytes, the highest first, as a word. -/
def be4 (a b c d : UInt8) : UInt32 := a.toUInt32 <<< 24 ||| b.toUInt32 <<< 16 ||| c.toUInt32 <<< 8 ||| d.toUInt32
theorem be4_le4 (a b c d : UInt8) : be4 a b c d = le4 d c b a := by
  unfold be4 le4
  rw [UInt32.or_comm (a.toUInt32 <<< 24 ||| b.toUInt32 <<< 16 ||| c.toUInt32 <<< 8) d.toUInt32, UInt32.or_comm (a.toUInt32 <<< 24 ||| b.toUInt32 <<< 16) (c.toUInt32 <<< 8), UInt32.or_comm (a.toUInt32 <<< 24) (b.toUInt32 <<< 16), ← UInt32.or_assoc, ← UInt32.or_assoc]
theorem be4_wd (a b c d : UInt8) : wd (be4 a b c d) = 16777216 * (a.toNat : Int) + 65536 * b.toNat + 256 * c.toNat + d.toNat := by
  rw [be4_le4, le4_wd]; omega
/-- The bytes of a word, the highest first. -/
def bytesB (x : UInt32) : List UInt8 := [(x >>> 24).toUInt8, (x >>> 16).toUInt8, (x >>> 8).toUInt8, x.toUInt8]
/-- The words of a text. -/
def wordsB : List UInt8 → List UInt32
  | a :: b :: c :: d :: r => be4 a b c d :: wordsB r
  | _ => []
theorem wordsB_len : ∀ (n : Nat) (l : List UInt8), l.length = 4 * n → (wordsB l).length = n
  | 0, l, h => by obtain rfl := List.eq_nil_of_length_eq_zero (by simpa using h); rfl
  | n + 1, l, h => by
    match l, h with
    | a :: b :: c :: d :: r, h => simp only [wordsB, List.length_cons]; rw [wordsB_len n r (by simp at h; omega)]
    | [], h => simp at h
    | [_], h => simp at h; omega
    | [_, _], h => simp at h; omega
    | [_, _, _], h => simp at h; omega
theorem wordsB_get : ∀ (i : Nat) (l : List UInt8), 4 * i + 4 ≤ l.length → ∃ a b c d r, l.drop (4 * i) = a :: b :: c :: d :: r ∧ (wordsB l)[i]? = some (be4 a b c d)
  | 0, l, h => by
    match l, h with
    | a :: b :: c :: d :: r, _ => exact ⟨a, b, c, d, r, rfl, rfl⟩
    | [], h => simp at h
    | [_], h => simp at h
    | [_, _], h => simp at h
    | [_, _, _], h => simp at h
  | i + 1, l, h => by
    match l, h with
    | a :: b :: c :: d :: r, h =>
      obtain ⟨a', b', c', d', r', h1, h2⟩ := wordsB_get i r (by simp at h; omega)
      exact ⟨a', b', c', d', r', by rw [show 4 * (i + 1) = 4 * i + 4 by omega]; exact h1, h2⟩
    | [], h => simp at h
    | [_], h => simp at h
    | [_, _], h => simp at h
    | [_, _, _], h => simp at h

theorem four_any (s : ByteArray) (a b c d : UInt8) (r : List UInt8) (hs : s.data.toList = a :: b :: c :: d :: r) (w : World) :
    Calls Tryd.prog 40 #[.string s] w fun e w' => e = .returned (.int .u32 (wd (be4 a b c d))) ∧ ∃ n, w' = w.drewN n := by
  have hsz : 4 ≤ s.size := by have := congrArg List.length hs; simp at this; omega
  have l0 : (0 : Int) < s.size := by omega
  have l1 : (1 : Int) < s.size := by omega
  have l2 : (2 : Int) < s.size := by omega
  have l3 : (3 : Int) < s.size := by omega
  have g0 : s[0] = a := bget (by omega) (by rw [hs]; rfl)
  have g1 : s[1] = b := bget (by omega) (by rw [hs]; rfl)
  have g2 : s[2] = c := bget (by omega) (by rw [hs]; rfl)
  have g3 : s[3] = d := bget (by omega) (by rw [hs]; rfl)
  go_enter Tryd.func40, Tryd.ntmps40
  go_wp2_with fail
  go_region
  go_wp2_with fail
  go_ret
  exact ⟨rfl, 1, rfl⟩

theorem rot (x : UInt32) (k : Int) (n : Nat) (h2 : bits .and .u64 (IntKind.u64.wrap k) 31 = n) (h3 : 0 < n) (h4 : n < 32) (w : World) :
    Calls Tryd.prog 52 #[.int .u32 (wd x), .int .i64 k] w fun e w' => e = .returned (.int .u32 (wd (rotl x n))) ∧ w = w' := by
  have hs : IntKind.u64.wrap (32 - (n:Int)) = ((32 - n : Nat) : Int) := by simp [IntKind.wrap, IntKind.bits, IntKind.signed]; omega
  have hr : bits .or .u32 (wd x * 2 ^ n % 4294967296) (wd x / 2 ^ (32 - n)) = wd (rotl x n) := rotl_walk x n h3 h4
  have hx0 := (wd_lt x).1
  have hx1 := (wd_lt x).2
  generalize hk : IntKind.u64.wrap k = ku at h2
  go_enter Tryd.func52, Tryd.ntmps52
  go_wp2
  go_ret
  exact ⟨rfl, rfl⟩

/-- turn, by each number that the program turns by. -/
theorem turn_any (x : UInt32) (s : Nat) (h : s ∈ [2, 6, 7, 11, 13, 17, 18, 19, 22, 25]) (w : World) :
    Calls Tryd.prog 47 #[.int .u32 (wd x), .int .i64 s] w fun e w' => e = .returned (.int .u32 (wd (rotr x s))) ∧ w = w' := by
  have key : bits .and .u64 (IntKind.u64.wrap (-(s : Int))) 31 = ((32 - s : Nat) : Int) ∧ 0 < s ∧ s < 32 := by
    simp only [List.mem_cons, List.not_mem_nil, or_false] at h
    rcases h with rfl | rfl | rfl | rfl | rfl | rfl | rfl | rfl | rfl | rfl <;> decide
  have hw : IntKind.i64.wrap (-(s : Int)) = -(s : Int) := IntWalk.i64_in _ (by omega)
  go_enter Tryd.func47, Tryd.ntmps47
  go_wp2_with (first
    | (go_at_call 52; refine (rot x (-(s : Int)) (32 - s) key.1 (by omega) (by omega) _).mono ?_; rintro e w' ⟨rfl, rfl⟩)
    | fail)
  go_ret
  exact ⟨rfl, rfl⟩
end Go.Proofs.YtkagmoaapampgaaDoor
