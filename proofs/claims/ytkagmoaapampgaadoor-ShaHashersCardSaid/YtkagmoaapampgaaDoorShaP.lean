/- SHA-256 in plain Lean. No program here. -/
import Derived.Test.YtkagmoaapampgaaDoorWords
namespace Go.Proofs.YtkagmoaapampgaaDoor.Base
set_option linter.unusedVariables false
set_option linter.unusedSimpArgs false

/-- Towards the low end (0 < n < 32). -/
def rotr (x : UInt32) (n : Nat) : UInt32 := rotl x (32 - n)
def lit0 (x : UInt32) : UInt32 := rotr x 7 ^^^ rotr x 18 ^^^ x >>> 3
def lit1 (x : UInt32) : UInt32 := rotr x 17 ^^^ rotr x 19 ^^^ x >>> 10
def big0 (x : UInt32) : UInt32 := rotr x 2 ^^^ rotr x 13 ^^^ rotr x 22
def big1 (x : UInt32) : UInt32 := rotr x 6 ^^^ rotr x 11 ^^^ rotr x 25
def choose (e f g : UInt32) : UInt32 := e &&& f ^^^ ~~~e &&& g
def most (a b c : UInt32) : UInt32 := a &&& b ^^^ a &&& c ^^^ b &&& c
def rootsL : List UInt32 := [0x428a2f98, 0x71374491, 0xb5c0fbcf, 0xe9b5dba5, 0x3956c25b, 0x59f111f1, 0x923f82a4, 0xab1c5ed5, 0xd807aa98, 0x12835b01, 0x243185be, 0x550c7dc3, 0x72be5d74, 0x80deb1fe, 0x9bdc06a7, 0xc19bf174, 0xe49b69c1, 0xefbe4786, 0x0fc19dc6, 0x240ca1cc, 0x2de92c6f, 0x4a7484aa, 0x5cb0a9dc, 0x76f988da, 0x983e5152, 0xa831c66d, 0xb00327c8, 0xbf597fc7, 0xc6e00bf3, 0xd5a79147, 0x06ca6351, 0x14292967, 0x27b70a85, 0x2e1b2138, 0x4d2c6dfc, 0x53380d13, 0x650a7354, 0x766a0abb, 0x81c2c92e, 0x92722c85, 0xa2bfe8a1, 0xa81a664b, 0xc24b8b70, 0xc76c51a3, 0xd192e819, 0xd6990624, 0xf40e3585, 0x106aa070, 0x19a4c116, 0x1e376c08, 0x2748774c, 0x34b0bcb5, 0x391c0cb3, 0x4ed8aa4a, 0x5b9cca4f, 0x682e6ff3, 0x748f82ee, 0x78a5636f, 0x84c87814, 0x8cc70208, 0x90befffa, 0xa4506ceb, 0xbef9a3f7, 0xc67178f2]
def firstL : List UInt32 := [0x6a09e667, 0xbb67ae85, 0x3c6ef372, 0xa54ff53a, 0x510e527f, 0x9b05688c, 0x1f83d9ab, 0x5be0cd19]
/-- Sixteen words and n more. -/
def sch (M : List UInt32) : Nat → List UInt32
  | 0 => M
  | n + 1 => let s := sch M n; s ++ [lit1 (s.getD (n + 14) 0) + s.getD (n + 9) 0 + lit0 (s.getD (n + 1) 0) + s.getD n 0]
theorem sch_len (M : List UInt32) (h : M.length = 16) : ∀ n, (sch M n).length = 16 + n
  | 0 => by simp [sch, h]
  | n + 1 => by simp [sch, sch_len M h n]; omega
/-- The eight words, a to h. -/
structure St where
  a : UInt32
  b : UInt32
  c : UInt32
  d : UInt32
  e : UInt32
  f : UInt32
  g : UInt32
  h : UInt32
def St.list (s : St) : List UInt32 := [s.a, s.b, s.c, s.d, s.e, s.f, s.g, s.h]
def St.of (l : List UInt32) : St := ⟨l.getD 0 0, l.getD 1 0, l.getD 2 0, l.getD 3 0, l.getD 4 0, l.getD 5 0, l.getD 6 0, l.getD 7 0⟩
theorem St.of_list (s : St) : St.of s.list = s := rfl
theorem St.list_of (l : List UInt32) (h : l.length = 8) : (St.of l).list = l := by
  match l, h with
  | [_, _, _, _, _, _, _, _], _ => rfl
def tee (s : St) (k w : UInt32) : UInt32 := s.h + big1 s.e + choose s.e s.f s.g + k + w
def you (s : St) : UInt32 := big0 s.a + most s.a s.b s.c
def St.step (s : St) (k w : UInt32) : St := ⟨tee s k w + you s, s.a, s.b, s.c, s.d + tee s k w, s.e, s.f, s.g⟩
/-- n steps. -/
def steps (H : List UInt32) (W : List UInt32) : Nat → St
  | 0 => St.of H
  | n + 1 => (steps H W n).step (rootsL.getD n 0) (W.getD n 0)
/-- The eight words behind a block of sixteen. -/
def mixL (H M : List UInt32) : List UInt32 := List.zipWith (· + ·) H (steps H (sch M 48) 64).list
theorem mixL_len (H M : List UInt32) (h : H.length = 8) : (mixL H M).length = 8 := by simp [mixL, St.list, h]
/-- The values that a and e take, one after the other (the document's rows). -/
def rowA (H W : List UInt32) : Nat → List UInt32
  | 0 => [H.getD 3 0, H.getD 2 0, H.getD 1 0, H.getD 0 0]
  | n + 1 => rowA H W n ++ [(steps H W (n + 1)).a]
def rowE (H W : List UInt32) : Nat → List UInt32
  | 0 => [H.getD 7 0, H.getD 6 0, H.getD 5 0, H.getD 4 0]
  | n + 1 => rowE H W n ++ [(steps H W (n + 1)).e]
theorem rowA_len (H W : List UInt32) : ∀ n, (rowA H W n).length = n + 4
  | 0 => rfl
  | n + 1 => by rw [rowA, List.length_append, rowA_len H W n]; simp
theorem rowE_len (H W : List UInt32) : ∀ n, (rowE H W n).length = n + 4
  | 0 => rfl
  | n + 1 => by rw [rowE, List.length_append, rowE_len H W n]; simp
theorem getD_app_lt (l r : List UInt32) (i : Nat) (h : i < l.length) : (l ++ r).getD i 0 = l.getD i 0 := by
  simp [List.getD, List.getElem?_append_left h]
theorem getD_app_eq (l : List UInt32) (x : UInt32) (i : Nat) (h : i = l.length) : (l ++ [x]).getD i 0 = x := by
  subst h; simp [List.getD]
theorem rows_say (H W : List UInt32) : ∀ n, let s := steps H W n
    (s.a = (rowA H W n).getD (n + 3) 0 ∧ s.b = (rowA H W n).getD (n + 2) 0 ∧ s.c = (rowA H W n).getD (n + 1) 0 ∧ s.d = (rowA H W n).getD n 0) ∧
    (s.e = (rowE H W n).getD (n + 3) 0 ∧ s.f = (rowE H W n).getD (n + 2) 0 ∧ s.g = (rowE H W n).getD (n + 1) 0 ∧ s.h = (rowE H W n).getD n 0)
  | 0 => ⟨⟨rfl, rfl, rfl, rfl⟩, ⟨rfl, rfl, rfl, rfl⟩⟩
  | n + 1 => by
    obtain ⟨⟨h1, h2, h3, h4⟩, ⟨g1, g2, g3, g4⟩⟩ := rows_say H W n
    have la := rowA_len H W n
    have le := rowE_len H W n
    refine ⟨⟨?_, ?_, ?_, ?_⟩, ⟨?_, ?_, ?_, ?_⟩⟩
    · rw [rowA, getD_app_eq _ _ _ (by omega)]
    · rw [rowA, getD_app_lt _ _ _ (by omega)]; exact h1
    · rw [rowA, getD_app_lt _ _ _ (by omega)]; exact h2
    · rw [rowA, getD_app_lt _ _ _ (by omega)]; exact h3
    · rw [rowE, getD_app_eq _ _ _ (by omega)]
    · rw [rowE, getD_app_lt _ _ _ (by omega)]; exact g1
    · rw [rowE, getD_app_lt _ _ _ (by omega)]; exact g2
    · rw [rowE, getD_app_lt _ _ _ (by omega)]; exact g3
end Go.Proofs.YtkagmoaapampgaaDoor.Base
