/- The printed rows of layer 6, reckoned. (mkaknown.py wrote it.) -/
import Derived.Test.YtichgiecohhmgaaDoorAeadE
import Derived.Test.YtichgiecohhmgaaDoorPolyV
import Derived.Test.YtichgiecohhmgaaDoorHexW
namespace Go.Proofs.YtichgiecohhmgaaDoor
open Go.RowKit Go.Lib Go.Joins Base
set_option linter.unusedVariables false
set_option linter.unusedSimpArgs false

def kKey : List UInt8 := [128, 129, 130, 131, 132, 133, 134, 135, 136, 137, 138, 139, 140, 141, 142, 143, 144, 145, 146, 147, 148, 149, 150, 151, 152, 153, 154, 155, 156, 157, 158, 159]
def kN1 : List UInt8 := [7, 0, 0, 0, 64, 65, 66, 67, 68, 69, 70, 71]
def kN2 : List UInt8 := [64, 65, 66, 67, 68, 69, 70, 71, 72, 73, 74, 75, 76, 77, 78, 79, 80, 81, 82, 83, 84, 85, 86, 87]
def kAad : List UInt8 := [80, 81, 82, 83, 192, 193, 194, 195, 196, 197, 198, 199]
def kPlain : List UInt8 := [76, 97, 100, 105, 101, 115, 32, 97, 110, 100, 32, 71, 101, 110, 116, 108, 101, 109, 101, 110, 32, 111, 102, 32, 116, 104, 101, 32, 99, 108, 97, 115, 115, 32, 111, 102, 32, 39, 57, 57, 58, 32, 73, 102, 32, 73, 32, 99, 111, 117, 108, 100, 32, 111, 102, 102, 101, 114, 32, 121, 111, 117, 32, 111, 110, 108, 121, 32, 111, 110, 101, 32, 116, 105, 112, 32, 102, 111, 114, 32, 116, 104, 101, 32, 102, 117, 116, 117, 114, 101, 44, 32, 115, 117, 110, 115, 99, 114, 101, 101, 110, 32, 119, 111, 117, 108, 100, 32, 98, 101, 32, 105, 116, 46]
def kK2 : List UInt8 := [74, 138, 192, 192, 41, 98, 34, 186, 254, 149, 159, 170, 190, 6, 164, 91, 137, 163, 206, 228, 68, 254, 246, 227, 215, 118, 89, 165, 63, 73, 238, 50]
def kM2 : List UInt8 := [0, 0, 0, 0, 80, 81, 82, 83, 84, 85, 86, 87]
def ka0 : List UInt8 := [123, 172, 43, 37, 45, 180, 71, 175, 9, 182, 122, 85, 164, 233, 85, 132, 10, 225, 214, 115, 16, 117, 217, 235, 42, 147, 117, 120, 62, 213, 83, 255, 162, 126, 204, 222, 173, 219, 77, 180, 209, 23, 156, 228, 201, 11, 67, 216, 188, 183, 148, 140, 75, 75, 125, 139, 125, 246, 39, 57, 50, 164, 105, 22]
def ka1 : List UInt8 := [159, 123, 233, 93, 1, 253, 64, 186, 21, 226, 143, 251, 54, 129, 10, 174, 193, 192, 136, 63, 9, 1, 110, 222, 221, 138, 208, 135, 85, 130, 3, 165, 78, 158, 203, 56, 172, 142, 94, 43, 184, 218, 178, 15, 250, 219, 82, 232, 117, 4, 178, 110, 190, 105, 109, 79, 96, 164, 133, 207, 17, 184, 27, 89]
def ka2 : List UInt8 := [252, 177, 196, 95, 66, 25, 238, 172, 236, 106, 222, 195, 78, 102, 105, 120, 142, 219, 65, 196, 156, 163, 1, 225, 39, 224, 172, 171, 59, 68, 185, 207, 92, 134, 187, 149, 224, 107, 13, 242, 144, 26, 182, 69, 228, 171, 230, 34, 21, 56, 12, 3, 206, 53, 108, 215, 166, 118, 99, 251, 221, 239, 255, 100]
def kCa : List UInt8 := [211, 26, 141, 52, 100, 142, 96, 219, 123, 134, 175, 188, 83, 239, 126, 194, 164, 173, 237, 81, 41, 110, 8, 254, 169, 226, 181, 167, 54, 238, 98, 214, 61, 190, 164, 94, 140, 169, 103, 18, 130, 250, 251, 105, 218, 146, 114, 139, 26, 113, 222, 10, 158, 6, 11, 41, 5, 214, 165, 182, 126, 205, 59, 54, 146, 221, 189, 127, 45, 119, 139, 140, 152, 3, 174, 227, 40, 9, 27, 88, 250, 179, 36, 228, 250, 214, 117, 148, 85, 133, 128, 139, 72, 49, 215, 188, 63, 244, 222, 240, 142, 75, 122, 157, 229, 118, 210, 101, 134, 206, 198, 75, 97, 22]
def kTa : List UInt8 := [26, 225, 11, 89, 79, 9, 226, 106, 126, 144, 46, 203, 208, 96, 6, 145]
set_option maxRecDepth 100000 in
theorem ka0_is : blk kKey kN1 0 = ka0 := by decide +kernel
set_option maxRecDepth 100000 in
theorem ka1_is : blk kKey kN1 1 = ka1 := by decide +kernel
set_option maxRecDepth 100000 in
theorem ka2_is : blk kKey kN1 2 = ka2 := by decide +kernel
theorem ks_a (i : Nat) (h : i < 128) : ksAt kKey kN1 1 i = (ka1 ++ ka2).getD i 0 := by
  have l1 : ka1.length = 64 := by decide
  unfold ksAt
  rcases Nat.lt_or_ge i 64 with h' | h'
  · rw [show i / 64 = 0 by omega, show i % 64 = i by omega, show (1 : UInt32) + UInt32.ofNat 0 = 1 by decide, ka1_is]
    simp only [List.getD]
    rw [List.getElem?_append_left (by omega)]
  · rw [show i / 64 = 1 by omega, show i % 64 = i - 64 by omega, show (1 : UInt32) + UInt32.ofNat 1 = 2 by decide, ka2_is]
    simp only [List.getD]
    rw [List.getElem?_append_right (by omega), l1]
set_option maxRecDepth 100000 in
theorem cipher_a : cipherOf kKey kN1 kPlain = kCa := by
  have e : cipherOf kKey kN1 kPlain = xorAll (fun i => (ka1 ++ ka2).getD i 0) kPlain := by
    unfold cipherOf xorAll
    apply List.ext_getElem?
    intro i
    rcases Nat.lt_or_ge i 114 with h | h
    · simp only [List.getElem?_mapIdx]
      rw [ks_a i (by omega)]
    · rw [List.getElem?_eq_none (by simp; exact h), List.getElem?_eq_none (by simp; exact h)]
  rw [e]
  decide +kernel
set_option maxRecDepth 100000 in
theorem tag_a : tagOf kKey kN1 kAad kCa = kTa := by
  unfold tagOf
  rw [ka0_is, tag_val _ _ (by decide)]
  decide +kernel
theorem seal_a : sealOf kKey kN1 kAad kPlain = kCa ++ kTa := by rw [sealOf, cipher_a, tag_a]
set_option maxRecDepth 100000 in
theorem hex_a : hexL (kCa ++ kTa) = [100, 51, 49, 97, 56, 100, 51, 52, 54, 52, 56, 101, 54, 48, 100, 98, 55, 98, 56, 54, 97, 102, 98, 99, 53, 51, 101, 102, 55, 101, 99, 50, 97, 52, 97, 100, 101, 100, 53, 49, 50, 57, 54, 101, 48, 56, 102, 101, 97, 57, 101, 50, 98, 53, 97, 55, 51, 54, 101, 101, 54, 50, 100, 54, 51, 100, 98, 101, 97, 52, 53, 101, 56, 99, 97, 57, 54, 55, 49, 50, 56, 50, 102, 97, 102, 98, 54, 57, 100, 97, 57, 50, 55, 50, 56, 98, 49, 97, 55, 49, 100, 101, 48, 97, 57, 101, 48, 54, 48, 98, 50, 57, 48, 53, 100, 54, 97, 53, 98, 54, 55, 101, 99, 100, 51, 98, 51, 54, 57, 50, 100, 100, 98, 100, 55, 102, 50, 100, 55, 55, 56, 98, 56, 99, 57, 56, 48, 51, 97, 101, 101, 51, 50, 56, 48, 57, 49, 98, 53, 56, 102, 97, 98, 51, 50, 52, 101, 52, 102, 97, 100, 54, 55, 53, 57, 52, 53, 53, 56, 53, 56, 48, 56, 98, 52, 56, 51, 49, 100, 55, 98, 99, 51, 102, 102, 52, 100, 101, 102, 48, 56, 101, 52, 98, 55, 97, 57, 100, 101, 53, 55, 54, 100, 50, 54, 53, 56, 54, 99, 101, 99, 54, 52, 98, 54, 49, 49, 54, 49, 97, 101, 49, 48, 98, 53, 57, 52, 102, 48, 57, 101, 50, 54, 97, 55, 101, 57, 48, 50, 101, 99, 98, 100, 48, 54, 48, 48, 54, 57, 49] := by decide +kernel
def kb0 : List UInt8 := [123, 25, 31, 128, 243, 97, 240, 153, 9, 79, 111, 75, 143, 185, 125, 248, 71, 204, 104, 115, 168, 242, 177, 144, 221, 115, 128, 113, 131, 249, 7, 213, 161, 203, 39, 56, 91, 0, 50, 159, 125, 220, 18, 112, 89, 214, 136, 37, 81, 161, 32, 231, 99, 19, 82, 233, 176, 56, 21, 114, 233, 80, 21, 90]
def kb1 : List UInt8 := [241, 12, 115, 244, 91, 240, 244, 90, 251, 18, 119, 211, 246, 174, 157, 85, 50, 71, 114, 110, 5, 68, 156, 236, 202, 186, 245, 12, 66, 85, 13, 200, 0, 60, 16, 125, 43, 109, 159, 125, 49, 211, 225, 73, 110, 147, 94, 90, 193, 17, 170, 20, 172, 59, 164, 112, 174, 228, 151, 87, 125, 102, 148, 61]
def kb2 : List UInt8 := [65, 224, 226, 132, 98, 219, 188, 101, 197, 114, 25, 153, 228, 174, 201, 190, 75, 87, 201, 11, 165, 28, 60, 250, 4, 215, 20, 21, 22, 166, 145, 138, 66, 139, 3, 41, 249, 67, 10, 198, 3, 228, 118, 214, 119, 163, 171, 122, 193, 0, 202, 51, 182, 15, 114, 70, 154, 155, 191, 179, 43, 89, 53, 151]
def kCb : List UInt8 := [189, 109, 23, 157, 62, 131, 212, 59, 149, 118, 87, 148, 147, 192, 233, 57, 87, 42, 23, 0, 37, 43, 250, 204, 190, 210, 144, 44, 33, 57, 108, 187, 115, 28, 127, 27, 11, 74, 166, 68, 11, 243, 168, 47, 78, 218, 126, 57, 174, 100, 198, 112, 140, 84, 194, 22, 203, 150, 183, 46, 18, 19, 180, 82, 47, 140, 155, 164, 13, 181, 217, 69, 177, 27, 105, 185, 130, 193, 187, 158, 63, 63, 172, 43, 195, 105, 72, 143, 118, 178, 56, 53, 101, 211, 255, 249, 33, 249, 102, 76, 151, 99, 125, 169, 118, 136, 18, 246, 21, 198, 139, 19, 181, 46]
def kTb : List UInt8 := [192, 135, 89, 36, 193, 199, 152, 121, 71, 222, 175, 216, 120, 10, 207, 73]
set_option maxRecDepth 100000 in
theorem kb0_is : blk kK2 kM2 0 = kb0 := by decide +kernel
set_option maxRecDepth 100000 in
theorem kb1_is : blk kK2 kM2 1 = kb1 := by decide +kernel
set_option maxRecDepth 100000 in
theorem kb2_is : blk kK2 kM2 2 = kb2 := by decide +kernel
theorem ks_b (i : Nat) (h : i < 128) : ksAt kK2 kM2 1 i = (kb1 ++ kb2).getD i 0 := by
  have l1 : kb1.length = 64 := by decide
  unfold ksAt
  rcases Nat.lt_or_ge i 64 with h' | h'
  · rw [show i / 64 = 0 by omega, show i % 64 = i by omega, show (1 : UInt32) + UInt32.ofNat 0 = 1 by decide, kb1_is]
    simp only [List.getD]
    rw [List.getElem?_append_left (by omega)]
  · rw [show i / 64 = 1 by omega, show i % 64 = i - 64 by omega, show (1 : UInt32) + UInt32.ofNat 1 = 2 by decide, kb2_is]
    simp only [List.getD]
    rw [List.getElem?_append_right (by omega), l1]
set_option maxRecDepth 100000 in
theorem cipher_b : cipherOf kK2 kM2 kPlain = kCb := by
  have e : cipherOf kK2 kM2 kPlain = xorAll (fun i => (kb1 ++ kb2).getD i 0) kPlain := by
    unfold cipherOf xorAll
    apply List.ext_getElem?
    intro i
    rcases Nat.lt_or_ge i 114 with h | h
    · simp only [List.getElem?_mapIdx]
      rw [ks_b i (by omega)]
    · rw [List.getElem?_eq_none (by simp; exact h), List.getElem?_eq_none (by simp; exact h)]
  rw [e]
  decide +kernel
set_option maxRecDepth 100000 in
theorem tag_b : tagOf kK2 kM2 kAad kCb = kTb := by
  unfold tagOf
  rw [kb0_is, tag_val _ _ (by decide)]
  decide +kernel
theorem seal_b : sealOf kK2 kM2 kAad kPlain = kCb ++ kTb := by rw [sealOf, cipher_b, tag_b]
set_option maxRecDepth 100000 in
theorem hex_b : hexL (kCb ++ kTb) = [98, 100, 54, 100, 49, 55, 57, 100, 51, 101, 56, 51, 100, 52, 51, 98, 57, 53, 55, 54, 53, 55, 57, 52, 57, 51, 99, 48, 101, 57, 51, 57, 53, 55, 50, 97, 49, 55, 48, 48, 50, 53, 50, 98, 102, 97, 99, 99, 98, 101, 100, 50, 57, 48, 50, 99, 50, 49, 51, 57, 54, 99, 98, 98, 55, 51, 49, 99, 55, 102, 49, 98, 48, 98, 52, 97, 97, 54, 52, 52, 48, 98, 102, 51, 97, 56, 50, 102, 52, 101, 100, 97, 55, 101, 51, 57, 97, 101, 54, 52, 99, 54, 55, 48, 56, 99, 53, 52, 99, 50, 49, 54, 99, 98, 57, 54, 98, 55, 50, 101, 49, 50, 49, 51, 98, 52, 53, 50, 50, 102, 56, 99, 57, 98, 97, 52, 48, 100, 98, 53, 100, 57, 52, 53, 98, 49, 49, 98, 54, 57, 98, 57, 56, 50, 99, 49, 98, 98, 57, 101, 51, 102, 51, 102, 97, 99, 50, 98, 99, 51, 54, 57, 52, 56, 56, 102, 55, 54, 98, 50, 51, 56, 51, 53, 54, 53, 100, 51, 102, 102, 102, 57, 50, 49, 102, 57, 54, 54, 52, 99, 57, 55, 54, 51, 55, 100, 97, 57, 55, 54, 56, 56, 49, 50, 102, 54, 49, 53, 99, 54, 56, 98, 49, 51, 98, 53, 50, 101, 99, 48, 56, 55, 53, 57, 50, 52, 99, 49, 99, 55, 57, 56, 55, 57, 52, 55, 100, 101, 97, 102, 100, 56, 55, 56, 48, 97, 99, 102, 52, 57] := by decide +kernel
set_option maxRecDepth 100000 in
theorem hch_k : (hch kKey (kN2.take 16)).flatMap bytes4 = kK2 := by decide +kernel
end Go.Proofs.YtichgiecohhmgaaDoor
