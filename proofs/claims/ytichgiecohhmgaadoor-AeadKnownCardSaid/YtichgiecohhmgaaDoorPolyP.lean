/- Poly1305 on words of 64 bits, as the program reckons it. No program here. -/
import Derived.Test.YtichgiecohhmgaaDoorQuads
namespace Go.Proofs.YtichgiecohhmgaaDoor
open Go.RowKit Go.Lib Base
set_option linter.unusedVariables false
set_option linter.unusedSimpArgs false

/-- The number of the first bytes, the lowest first. -/
def wordUp (b : List UInt8) : Nat → UInt64
  | 0 => 0
  | i + 1 => wordUp b i ||| (b.getD i 0).toUInt64 <<< UInt64.ofNat (8 * i)
def word8 (b : List UInt8) : UInt64 := wordUp b 8
def loadL (b : List UInt8) (above : UInt64) : List UInt64 :=
  [word8 (b.take 8) &&& 67108863, word8 (b.take 8) >>> 26 &&& 67108863, (word8 (b.take 8) >>> 52 ||| word8 (b.drop 8) <<< 12) &&& 67108863, word8 (b.drop 8) >>> 14 &&& 67108863, word8 (b.drop 8) >>> 40 ||| above <<< 24]
theorem loadL_len (b : List UInt8) (a : UInt64) : (loadL b a).length = 5 := rfl
/-- The first i limbs brought below 2^26. -/
def carryUp (l : List UInt64) : Nat → List UInt64
  | 0 => l
  | i + 1 => ((carryUp l i).set (i + 1) ((carryUp l i).getD (i + 1) 0 + (carryUp l i).getD i 0 >>> 26)).set i ((carryUp l i).getD i 0 &&& 67108863)
theorem carryUp_len (l : List UInt64) : ∀ i, (carryUp l i).length = l.length
  | 0 => rfl
  | i + 1 => by rw [carryUp, List.length_set, List.length_set, carryUp_len l i]
/-- What stands above 2^130 comes in below. -/
def foldL : List UInt64 → List UInt64
  | [a, b, c, d, e] => [a + (e >>> 26) * 5 &&& 67108863, b + (a + (e >>> 26) * 5) >>> 26, c, d, e &&& 67108863]
  | l => l
def carryL (l : List UInt64) : List UInt64 := foldL (carryUp l 4)
theorem foldL_len (l : List UInt64) : (foldL l).length = l.length := by
  unfold foldL; split <;> rfl
theorem carryL_len (l : List UInt64) : (carryL l).length = l.length := by rw [carryL, foldL_len, carryUp_len]
def addL (a n : List UInt64) : List UInt64 := List.zipWith (· + ·) a n
/-- The first i limbs added. -/
def addUp (a n : List UInt64) (i : Nat) : List UInt64 := (addL a n).take i ++ a.drop i
def prodAt (a r : List UInt64) (i j : Nat) : UInt64 := if 5 ≤ i + j then a.getD i 0 * r.getD j 0 * 5 else a.getD i 0 * r.getD j 0
/-- The first k products, added up. -/
def mulUp (a r : List UInt64) : Nat → List UInt64
  | 0 => [0, 0, 0, 0, 0]
  | k + 1 => (mulUp a r k).set ((k / 5 + k % 5) % 5) ((mulUp a r k).getD ((k / 5 + k % 5) % 5) 0 + prodAt a r (k / 5) (k % 5))
theorem mulUp_len (a r : List UInt64) : ∀ k, (mulUp a r k).length = 5
  | 0 => rfl
  | k + 1 => by rw [mulUp, List.length_set, mulUp_len a r k]
def blockL (acc r n : List UInt64) : List UInt64 := carryL (mulUp (addL acc n) r 25)
theorem blockL_len (acc r n : List UInt64) : (blockL acc r n).length = 5 := by rw [blockL, carryL_len, mulUp_len]
/-- The number itself, below p. -/
def reducedL (n : List UInt64) : List UInt64 :=
  let m := carryL (carryL n)
  let t := carryUp (m.set 0 (m.getD 0 0 + 5)) 4
  if t.getD 4 0 >>> 26 = 0 then m else t.set 4 (t.getD 4 0 &&& 67108863)
theorem reducedL_len (n : List UInt64) : (reducedL n).length = n.length := by
  unfold reducedL
  simp only
  split
  · rw [carryL_len, carryL_len]
  · rw [List.length_set, carryUp_len, List.length_set, carryL_len, carryL_len]
/-- What was taken in: the whole blocks of a text. -/
def accUp (r : List UInt64) (T : List UInt8) : Nat → List UInt64
  | 0 => [0, 0, 0, 0, 0]
  | i + 1 => blockL (accUp r T i) r (loadL ((T.drop (16 * i)).take 16) 1)
def accOf (r : List UInt64) (T : List UInt8) : List UInt64 := accUp r T (T.length / 16)
theorem accUp_len (r : List UInt64) (T : List UInt8) : ∀ i, (accUp r T i).length = 5
  | 0 => rfl
  | i + 1 => blockL_len _ _ _
theorem accUp_app (r : List UInt64) (T U : List UInt8) : ∀ i, 16 * i ≤ T.length → accUp r (T ++ U) i = accUp r T i
  | 0, _ => rfl
  | i + 1, h => by
    rw [accUp, accUp, accUp_app r T U i (by omega)]
    have e : ((T ++ U).drop (16 * i)).take 16 = (T.drop (16 * i)).take 16 := by
      rw [List.drop_append_of_le_length (by omega), List.take_append_of_le_length (by rw [List.length_drop]; omega)]
    rw [e]
def restL (T : List UInt8) : List UInt8 := T.drop (16 * (T.length / 16))
theorem restL_len (T : List UInt8) : (restL T).length = T.length % 16 := by simp [restL]; omega
/-- The last block, if one is begun. -/
def lastL (r : List UInt64) (T : List UInt8) : List UInt64 :=
  if restL T = [] then accOf r T else blockL (accOf r T) r (loadL (restL T ++ 1 :: List.replicate (15 - (restL T).length) 0) 0)
theorem lastL_len (r : List UInt64) (T : List UInt8) : (lastL r T).length = 5 := by
  unfold lastL; split
  · exact accUp_len _ _ _
  · exact blockL_len _ _ _
def bytes8 (x : UInt64) : List UInt8 := (List.range 8).map fun i => (x >>> UInt64.ofNat (8 * i)).toUInt8
theorem bytes8_len (x : UInt64) : (bytes8 x).length = 8 := by simp [bytes8]
/-- The sum: the number and the key's last half. -/
def outL (n : List UInt64) (s0 s1 : UInt64) : List UInt8 :=
  let low := n.getD 0 0 ||| n.getD 1 0 <<< 26 ||| n.getD 2 0 <<< 52
  let high := n.getD 2 0 >>> 12 ||| n.getD 3 0 <<< 14 ||| n.getD 4 0 <<< 40
  let sum := low + s0
  bytes8 sum ++ bytes8 (high + (s1 + if sum < low then 1 else 0))
theorem outL_len (n : List UInt64) (s0 s1 : UInt64) : (outL n s0 s1).length = 16 := by simp [outL, bytes8_len]
/-- The first i bytes at these places, masked. -/
def maskTo (ps : List Nat) (m : UInt8) (b : List UInt8) : Nat → List UInt8
  | 0 => b
  | i + 1 => (maskTo ps m b i).set (ps.getD i 0) ((maskTo ps m b i).getD (ps.getD i 0) 0 &&& m)
theorem maskTo_len (ps : List Nat) (m : UInt8) (b : List UInt8) : ∀ i, (maskTo ps m b i).length = b.length
  | 0 => rfl
  | i + 1 => by rw [maskTo, List.length_set, maskTo_len ps m b i]
/-- The key's first half with the bits that are taken as 0. -/
def clampUp (K : List UInt8) : List UInt8 := maskTo [4, 8, 12] 252 (maskTo [3, 7, 11, 15] 15 K 4) 3
theorem clampUp_len (K : List UInt8) : (clampUp K).length = K.length := by rw [clampUp, maskTo_len, maskTo_len]
def rOf (K : List UInt8) : List UInt64 := loadL (clampUp (K.take 16)) 0
def s0Of (K : List UInt8) : UInt64 := word8 ((K.drop 16).take 8)
def s1Of (K : List UInt8) : UInt64 := word8 ((K.drop 16).drop 8)
/-- The tag of a text under a key of 32 bytes. -/
def tagL (K T : List UInt8) : List UInt8 := outL (reducedL (lastL (rOf K) T)) (s0Of K) (s1Of K)
theorem tagL_len (K T : List UInt8) : (tagL K T).length = 16 := outL_len _ _ _
end Go.Proofs.YtichgiecohhmgaaDoor
