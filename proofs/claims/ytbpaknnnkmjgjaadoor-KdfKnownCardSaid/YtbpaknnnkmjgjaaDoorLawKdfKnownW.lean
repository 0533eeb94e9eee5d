/- The law KdfKnown walked: the rows that the standards print. -/
import Derived.Test.YtbpaknnnkmjgjaaDoorKdfPass
import Derived.Test.YtbpaknnnkmjgjaaDoorLawKdfCutsW
import Derived.Test.YtbpaknnnkmjgjaaDoorHexW
import Derived.Test.YtbpaknnnkmjgjaaDoorKdfRows
import Derived.Test.YtbpaknnnkmjgjaaDoorChainE
namespace Go.Proofs.YtbpaknnnkmjgjaaDoor
open Go.RowKit Go.Lib Go.Joins Base
set_option linter.unusedVariables false
set_option linter.unusedSimpArgs false

def risingL (c : UInt8) (n : Nat) : List UInt8 := (List.range n).map fun i => c + UInt8.ofNat i
set_option maxRecDepth 100000 in
set_option maxHeartbeats 1000000 in
theorem rising_any (c : UInt8) (n : Nat) (hn : n ≤ 200) (w : World) :
    Calls Tryd.prog 37 #[.int .u8 (bt c), .int .i64 n] w fun e w' => e = .returned (.string ⟨(risingL c n).toArray⟩) ∧ Fr [] w w' := by
  have hi5 : (Tryd.prog.info? 5).map (fun i => (i.zero, i.size, i.bytes)) = some (some (.int .u8 0), 1, 1) := by kernel_rfl
  obtain ⟨iI, hiI, hz0, hz1, hz2⟩ := info_parts hi5
  go_enter Tryd.func37, Tryd.ntmps37
  go_wp2_with fail
  go_loopw [5, 6] (fun vb v6 wr => ∃ i : Nat, i ≤ n ∧ v6 = .int .i64 i ∧ wr.ownsRow w.heap.size 5 1 vb i (byteCells (risingL c i)) ∧ Below w.heap.size w wr) (fun _ v _ => n - (intOf v).toNat)
  case atStart => exact ⟨0, by omega, rfl, World.ownsRow_nil _ _ _ _, Below.refl _ _⟩
  case round =>
    obtain ⟨i, hi, rfl, h0, hF⟩ := hrel
    have hsz := hF.size
    by_cases hl : i < n
    · have l1 : (i : Int) < n := by omega
      have wB : IntKind.u8.wrap (i : Int) = bt (UInt8.ofNat i) := ofNat_wrap i (by omega)
      obtain ⟨y, hy⟩ : ∃ y, y = c + UInt8.ofNat i := ⟨_, rfl⟩
      have r5 : ∀ t, binOp .add t (.int .u8 (bt c)) (.int .u8 (bt (UInt8.ofNat i))) = pure (.int .u8 (bt y)) := fun t => by
        rw [binOp_add]
        show pure (Value.int .u8 (IntKind.u8.wrap (bt c + bt (UInt8.ofNat i)))) = _
        have e : IntKind.u8.wrap (bt c + bt (UInt8.ofNat i)) = bt y := by
          rw [hy]; unfold bt; rw [UInt8.toNat_add]; simp [IntKind.wrap, IntKind.bits, IntKind.signed]
        rw [e]
      have hsucc : risingL c (i + 1) = risingL c i ++ [y] := by rw [hy]; simp [risingL, List.range_succ]
      generalize UInt8.ofNat i = z at wB r5
      have HS := Lib.hid hsucc
      clear hsucc hy
      have A2 := At.alloc_new wr 5 #[Value.int .u8 (bt y)]
      go_wp2_with (first
        | (at_builtin; refine wpList_append_own _ rfl _ _ _ rfl w.heap.size 5 iI (.int .u8 0) 1 1 Tryd.underlying59 hiI hz0 hz1 hz2 rfl (by decide) _ i _ rfl (World.ownsRow.alloc h0 _) ⟨wr.heap.size, 0, none⟩ 1 1 (byteCells [y]) rfl rfl (by intro j u hj; rw [addr_add', Nat.zero_add]; exact (A2.cell j).trans hj) (byteCells_one _) (by simp [maxLen]; omega) (by omega) (by simp; omega) ?_; intro v2 w2 o2 gr2 _)
        | fail)
      refine ⟨⟨i + 1, by omega, by simp, ?_, ?_⟩, by simp only [intOf]; omega⟩
      · rw [HS.out]
        simpa [byteCells] using o2
      · refine (hF.alloc (by omega) _).grown gr2 (by simp; omega) ?_
        intro x hx
        exact (h0.lt x hx).1
    · obtain rfl : i = n := by omega
      have hcv := run_strOwn Tryd.underlying59 Tryd.underlying5 Tryd.underlying9 h0
      go_wp2_with fail
      go_ret
      exact ⟨rfl, Fr.ofBelow hF⟩

theorem str_size (l : List UInt8) : (⟨l.toArray⟩ : ByteArray).size = l.length := by show l.toArray.size = _; simp

set_option maxRecDepth 100000 in
set_option maxHeartbeats 8000000 in
theorem known_law {w : World} (hI : First w) (hR : Roots w) :
    Calls Tryd.prog 11 #[] w fun e w' => e = .returned (.bool true) ∧ Fr [] w w' := by
  -- the keys and the texts that the law makes
  have m1 : ∀ w, Calls Tryd.prog 18 #[.int .u8 11, .int .i64 20] w fun e w' => e = .returned (.string ⟨(List.replicate 20 11).toArray⟩) ∧ Fr [] w w' := fun w => many_any 11 20 (by omega) w
  have m2 : ∀ w, Calls Tryd.prog 18 #[.int .u8 170, .int .i64 131] w fun e w' => e = .returned (.string ⟨(List.replicate 131 170).toArray⟩) ∧ Fr [] w w' := fun w => many_any 170 131 (by omega) w
  have m3 : ∀ w, Calls Tryd.prog 18 #[.int .u8 11, .int .i64 22] w fun e w' => e = .returned (.string ⟨(List.replicate 22 11).toArray⟩) ∧ Fr [] w w' := fun w => many_any 11 22 (by omega) w
  have r1 : ∀ w, Calls Tryd.prog 37 #[.int .u8 0, .int .i64 13] w fun e w' => e = .returned (.string ⟨([0, 1, 2, 3, 4, 5, 6, 7, 8, 9, 10, 11, 12] : List UInt8).toArray⟩) ∧ Fr [] w w' := fun w => rising_any 0 13 (by omega) w
  have r2 : ∀ w, Calls Tryd.prog 37 #[.int .u8 240, .int .i64 10] w fun e w' => e = .returned (.string ⟨([240, 241, 242, 243, 244, 245, 246, 247, 248, 249] : List UInt8).toArray⟩) ∧ Fr [] w w' := fun w => rising_any 240 10 (by omega) w
  have ha : ∀ w g, First w → Roots w → At w g 9 [.string ⟨#[72, 105, 32, 84, 104, 101, 114, 101]⟩] → Calls Tryd.prog 13 #[.string ⟨(List.replicate 20 11).toArray⟩, .slice (some ⟨g, 0, none⟩) 1 1] w fun e w' => e = .returned (.string ⟨(hmacL (List.replicate 20 11) [72, 105, 32, 84, 104, 101, 114, 101]).toArray⟩) ∧ Fr [] w w' := fun w g h1 h2 h3 => hmac_one ⟨(List.replicate 20 11).toArray⟩ ⟨#[72, 105, 32, 84, 104, 101, 114, 101]⟩ (by decide) (by decide) w g h1 h2 h3
  have hc : ∀ w g, First w → Roots w → At w g 9 [.string ⟨#[84, 101, 115, 116, 32, 85, 115, 105, 110, 103, 32, 76, 97, 114, 103, 101, 114, 32, 84, 104, 97, 110, 32, 66, 108, 111, 99, 107, 45, 83, 105, 122, 101, 32, 75, 101, 121, 32, 45, 32, 72, 97, 115, 104, 32, 75, 101, 121, 32, 70, 105, 114, 115, 116]⟩] → Calls Tryd.prog 13 #[.string ⟨(List.replicate 131 170).toArray⟩, .slice (some ⟨g, 0, none⟩) 1 1] w fun e w' => e = .returned (.string ⟨(hmacL (List.replicate 131 170) [84, 101, 115, 116, 32, 85, 115, 105, 110, 103, 32, 76, 97, 114, 103, 101, 114, 32, 84, 104, 97, 110, 32, 66, 108, 111, 99, 107, 45, 83, 105, 122, 101, 32, 75, 101, 121, 32, 45, 32, 72, 97, 115, 104, 32, 75, 101, 121, 32, 70, 105, 114, 115, 116]).toArray⟩) ∧ Fr [] w w' := fun w g h1 h2 h3 => hmac_one ⟨(List.replicate 131 170).toArray⟩ ⟨#[84, 101, 115, 116, 32, 85, 115, 105, 110, 103, 32, 76, 97, 114, 103, 101, 114, 32, 84, 104, 97, 110, 32, 66, 108, 111, 99, 107, 45, 83, 105, 122, 101, 32, 75, 101, 121, 32, 45, 32, 72, 97, 115, 104, 32, 75, 101, 121, 32, 70, 105, 114, 115, 116]⟩ (by decide) (by decide) w g h1 h2 h3
  have hb : ∀ w g, First w → Roots w → At w g 9 [.string ⟨#[119, 104, 97, 116, 32, 100, 111, 32, 121, 97, 32, 119, 97, 110, 116, 32]⟩, .string ⟨#[]⟩, .string ⟨#[102, 111, 114, 32, 110, 111, 116, 104, 105, 110, 103, 63]⟩] → Calls Tryd.prog 13 #[.string ⟨#[74, 101, 102, 101]⟩, .slice (some ⟨g, 0, none⟩) 3 3] w fun e w' => e = .returned (.string ⟨(hmacL [74, 101, 102, 101] [119, 104, 97, 116, 32, 100, 111, 32, 121, 97, 32, 119, 97, 110, 116, 32, 102, 111, 114, 32, 110, 111, 116, 104, 105, 110, 103, 63]).toArray⟩) ∧ Fr [] w w' := fun w g h1 h2 h3 =>
    hmac_any ⟨#[74, 101, 102, 101]⟩ (by decide) [⟨#[119, 104, 97, 116, 32, 100, 111, 32, 121, 97, 32, 119, 97, 110, 116, 32]⟩, ⟨#[]⟩, ⟨#[102, 111, 114, 32, 110, 111, 116, 104, 105, 110, 103, 63]⟩] (some ⟨g, 0, none⟩) 3 (.inl ⟨_, _, rfl⟩) (by decide) (by decide) w h1 h2 (Texts.ofAt h3)
  have xp : ∀ w, First w → Roots w → Calls Tryd.prog 28 #[.string ⟨([0, 1, 2, 3, 4, 5, 6, 7, 8, 9, 10, 11, 12] : List UInt8).toArray⟩, .string ⟨(List.replicate 22 11).toArray⟩] w fun e w' => e = .returned (.string ⟨(hmacL [0, 1, 2, 3, 4, 5, 6, 7, 8, 9, 10, 11, 12] (List.replicate 22 11)).toArray⟩) ∧ Fr [] w w' := fun w h1 h2 =>
    extract_any ⟨([0, 1, 2, 3, 4, 5, 6, 7, 8, 9, 10, 11, 12] : List UInt8).toArray⟩ ⟨(List.replicate 22 11).toArray⟩ (by decide) (by decide) w h1 h2
  have xs : ∀ w, First w → Roots w → Calls Tryd.prog 30 #[.string ⟨(hmacL [0, 1, 2, 3, 4, 5, 6, 7, 8, 9, 10, 11, 12] (List.replicate 22 11)).toArray⟩, .string ⟨([240, 241, 242, 243, 244, 245, 246, 247, 248, 249] : List UInt8).toArray⟩, .int .i64 42] w fun e w' => e = .returned (.tuple #[.string ⟨(expL (hmacL [0, 1, 2, 3, 4, 5, 6, 7, 8, 9, 10, 11, 12] (List.replicate 22 11)) [240, 241, 242, 243, 244, 245, 246, 247, 248, 249] 42).toArray⟩, .int .i64 0]) ∧ Fr [] w w' := fun w h1 h2 =>
    expand_any ⟨(hmacL [0, 1, 2, 3, 4, 5, 6, 7, 8, 9, 10, 11, 12] (List.replicate 22 11)).toArray⟩ ⟨([240, 241, 242, 243, 244, 245, 246, 247, 248, 249] : List UInt8).toArray⟩ (by rw [str_size, hmacL_len]; omega) (by decide) 42 (by omega) w h1 h2
  have p1 : ∀ w, First w → Roots w → Calls Tryd.prog 32 #[.string ⟨#[112, 97, 115, 115, 119, 111, 114, 100]⟩, .string ⟨#[115, 97, 108, 116]⟩, .int .i64 1, .int .i64 32] w fun e w' => e = .returned (.tuple #[.string ⟨(pbL [112, 97, 115, 115, 119, 111, 114, 100] [115, 97, 108, 116] 1 32).toArray⟩, .int .i64 0]) ∧ Fr [] w w' := fun w h1 h2 => pass_any ⟨#[112, 97, 115, 115, 119, 111, 114, 100]⟩ ⟨#[115, 97, 108, 116]⟩ (by decide) (by decide) 1 32 (by omega) (by omega) (by omega) w h1 h2
  have p2 : ∀ w, First w → Roots w → Calls Tryd.prog 32 #[.string ⟨#[112, 97, 115, 115, 119, 111, 114, 100]⟩, .string ⟨#[115, 97, 108, 116]⟩, .int .i64 2, .int .i64 32] w fun e w' => e = .returned (.tuple #[.string ⟨(pbL [112, 97, 115, 115, 119, 111, 114, 100] [115, 97, 108, 116] 2 32).toArray⟩, .int .i64 0]) ∧ Fr [] w w' := fun w h1 h2 => pass_any ⟨#[112, 97, 115, 115, 119, 111, 114, 100]⟩ ⟨#[115, 97, 108, 116]⟩ (by decide) (by decide) 2 32 (by omega) (by omega) (by omega) w h1 h2
  have p3 : ∀ w, First w → Roots w → Calls Tryd.prog 32 #[.string ⟨#[112, 97, 115, 115, 119, 111, 114, 100, 80, 65, 83, 83, 87, 79, 82, 68, 112, 97, 115, 115, 119, 111, 114, 100]⟩, .string ⟨#[115, 97, 108, 116, 83, 65, 76, 84, 115, 97, 108, 116, 83, 65, 76, 84, 115, 97, 108, 116, 83, 65, 76, 84, 115, 97, 108, 116, 83, 65, 76, 84, 115, 97, 108, 116]⟩, .int .i64 4096, .int .i64 40] w fun e w' => e = .returned (.tuple #[.string ⟨(pbL longK longS 4096 40).toArray⟩, .int .i64 0]) ∧ Fr [] w w' := fun w h1 h2 => pass_any ⟨#[112, 97, 115, 115, 119, 111, 114, 100, 80, 65, 83, 83, 87, 79, 82, 68, 112, 97, 115, 115, 119, 111, 114, 100]⟩ ⟨#[115, 97, 108, 116, 83, 65, 76, 84, 115, 97, 108, 116, 83, 65, 76, 84, 115, 97, 108, 116, 83, 65, 76, 84, 115, 97, 108, 116, 83, 65, 76, 84, 115, 97, 108, 116]⟩ (by decide) (by decide) 4096 40 (by omega) (by omega) (by omega) w h1 h2
  have ga := fun w => hex_any ⟨(hmacL (List.replicate 20 11) [72, 105, 32, 84, 104, 101, 114, 101]).toArray⟩ (by rw [str_size, hmacL_len]; omega) w
  have tga : (⟨(hmacL (List.replicate 20 11) [72, 105, 32, 84, 104, 101, 114, 101]).toArray⟩ : ByteArray).data.toList = hmacL (List.replicate 20 11) [72, 105, 32, 84, 104, 101, 114, 101] := rfl
  rw [tga, row_a] at ga
  have gb := fun w => hex_any ⟨(hmacL [74, 101, 102, 101] [119, 104, 97, 116, 32, 100, 111, 32, 121, 97, 32, 119, 97, 110, 116, 32, 102, 111, 114, 32, 110, 111, 116, 104, 105, 110, 103, 63]).toArray⟩ (by rw [str_size, hmacL_len]; omega) w
  have tgb : (⟨(hmacL [74, 101, 102, 101] [119, 104, 97, 116, 32, 100, 111, 32, 121, 97, 32, 119, 97, 110, 116, 32, 102, 111, 114, 32, 110, 111, 116, 104, 105, 110, 103, 63]).toArray⟩ : ByteArray).data.toList = hmacL [74, 101, 102, 101] [119, 104, 97, 116, 32, 100, 111, 32, 121, 97, 32, 119, 97, 110, 116, 32, 102, 111, 114, 32, 110, 111, 116, 104, 105, 110, 103, 63] := rfl
  rw [tgb, row_b] at gb
  have gc := fun w => hex_any ⟨(hmacL (List.replicate 131 170) [84, 101, 115, 116, 32, 85, 115, 105, 110, 103, 32, 76, 97, 114, 103, 101, 114, 32, 84, 104, 97, 110, 32, 66, 108, 111, 99, 107, 45, 83, 105, 122, 101, 32, 75, 101, 121, 32, 45, 32, 72, 97, 115, 104, 32, 75, 101, 121, 32, 70, 105, 114, 115, 116]).toArray⟩ (by rw [str_size, hmacL_len]; omega) w
  have tgc : (⟨(hmacL (List.replicate 131 170) [84, 101, 115, 116, 32, 85, 115, 105, 110, 103, 32, 76, 97, 114, 103, 101, 114, 32, 84, 104, 97, 110, 32, 66, 108, 111, 99, 107, 45, 83, 105, 122, 101, 32, 75, 101, 121, 32, 45, 32, 72, 97, 115, 104, 32, 75, 101, 121, 32, 70, 105, 114, 115, 116]).toArray⟩ : ByteArray).data.toList = hmacL (List.replicate 131 170) [84, 101, 115, 116, 32, 85, 115, 105, 110, 103, 32, 76, 97, 114, 103, 101, 114, 32, 84, 104, 97, 110, 32, 66, 108, 111, 99, 107, 45, 83, 105, 122, 101, 32, 75, 101, 121, 32, 45, 32, 72, 97, 115, 104, 32, 75, 101, 121, 32, 70, 105, 114, 115, 116] := rfl
  rw [tgc, row_c] at gc
  have gp := fun w => hex_any ⟨(hmacL [0, 1, 2, 3, 4, 5, 6, 7, 8, 9, 10, 11, 12] (List.replicate 22 11)).toArray⟩ (by rw [str_size, hmacL_len]; omega) w
  have tgp : (⟨(hmacL [0, 1, 2, 3, 4, 5, 6, 7, 8, 9, 10, 11, 12] (List.replicate 22 11)).toArray⟩ : ByteArray).data.toList = hmacL [0, 1, 2, 3, 4, 5, 6, 7, 8, 9, 10, 11, 12] (List.replicate 22 11) := rfl
  rw [tgp, row_p] at gp
  have gs := fun w => hex_any ⟨(expL (hmacL [0, 1, 2, 3, 4, 5, 6, 7, 8, 9, 10, 11, 12] (List.replicate 22 11)) [240, 241, 242, 243, 244, 245, 246, 247, 248, 249] 42).toArray⟩ (by rw [str_size, expL_len]; omega) w
  have tgs : (⟨(expL (hmacL [0, 1, 2, 3, 4, 5, 6, 7, 8, 9, 10, 11, 12] (List.replicate 22 11)) [240, 241, 242, 243, 244, 245, 246, 247, 248, 249] 42).toArray⟩ : ByteArray).data.toList = expL (hmacL [0, 1, 2, 3, 4, 5, 6, 7, 8, 9, 10, 11, 12] (List.replicate 22 11)) [240, 241, 242, 243, 244, 245, 246, 247, 248, 249] 42 := rfl
  rw [tgs, row_s] at gs
  have g1 := fun w => hex_any ⟨(pbL [112, 97, 115, 115, 119, 111, 114, 100] [115, 97, 108, 116] 1 32).toArray⟩ (by rw [str_size, pbL_len]; omega) w
  have tg1 : (⟨(pbL [112, 97, 115, 115, 119, 111, 114, 100] [115, 97, 108, 116] 1 32).toArray⟩ : ByteArray).data.toList = pbL [112, 97, 115, 115, 119, 111, 114, 100] [115, 97, 108, 116] 1 32 := rfl
  rw [tg1, row_one] at g1
  have g2 := fun w => hex_any ⟨(pbL [112, 97, 115, 115, 119, 111, 114, 100] [115, 97, 108, 116] 2 32).toArray⟩ (by rw [str_size, pbL_len]; omega) w
  have tg2 : (⟨(pbL [112, 97, 115, 115, 119, 111, 114, 100] [115, 97, 108, 116] 2 32).toArray⟩ : ByteArray).data.toList = pbL [112, 97, 115, 115, 119, 111, 114, 100] [115, 97, 108, 116] 2 32 := rfl
  rw [tg2, row_two] at g2
  have g3 := fun w => hex_any ⟨(pbL longK longS 4096 40).toArray⟩ (by rw [str_size, pbL_len]; omega) w
  have tg3 : (⟨(pbL longK longS 4096 40).toArray⟩ : ByteArray).data.toList = pbL longK longS 4096 40 := rfl
  rw [tg3, row_passes] at g3
  clear tga
  generalize (⟨(hmacL (List.replicate 20 11) [72, 105, 32, 84, 104, 101, 114, 101]).toArray⟩ : ByteArray) = A at ha ga
  clear tgb
  generalize (⟨(hmacL [74, 101, 102, 101] [119, 104, 97, 116, 32, 100, 111, 32, 121, 97, 32, 119, 97, 110, 116, 32, 102, 111, 114, 32, 110, 111, 116, 104, 105, 110, 103, 63]).toArray⟩ : ByteArray) = B at hb gb
  clear tgc
  generalize (⟨(hmacL (List.replicate 131 170) [84, 101, 115, 116, 32, 85, 115, 105, 110, 103, 32, 76, 97, 114, 103, 101, 114, 32, 84, 104, 97, 110, 32, 66, 108, 111, 99, 107, 45, 83, 105, 122, 101, 32, 75, 101, 121, 32, 45, 32, 72, 97, 115, 104, 32, 75, 101, 121, 32, 70, 105, 114, 115, 116]).toArray⟩ : ByteArray) = C at hc gc
  clear tgs
  generalize (⟨(expL (hmacL [0, 1, 2, 3, 4, 5, 6, 7, 8, 9, 10, 11, 12] (List.replicate 22 11)) [240, 241, 242, 243, 244, 245, 246, 247, 248, 249] 42).toArray⟩ : ByteArray) = S at xs gs
  clear tgp
  generalize (⟨(hmacL [0, 1, 2, 3, 4, 5, 6, 7, 8, 9, 10, 11, 12] (List.replicate 22 11)).toArray⟩ : ByteArray) = P at xp xs gp
  clear tg1
  generalize (⟨(pbL [112, 97, 115, 115, 119, 111, 114, 100] [115, 97, 108, 116] 1 32).toArray⟩ : ByteArray) = O at p1 g1
  clear tg2
  generalize (⟨(pbL [112, 97, 115, 115, 119, 111, 114, 100] [115, 97, 108, 116] 2 32).toArray⟩ : ByteArray) = T at p2 g2
  clear tg3
  generalize (⟨(pbL longK longS 4096 40).toArray⟩ : ByteArray) = Q at p3 g3
  generalize (⟨(List.replicate 20 11).toArray⟩ : ByteArray) = k1 at m1 ha
  generalize (⟨(List.replicate 131 170).toArray⟩ : ByteArray) = k2 at m2 hc
  generalize (⟨(List.replicate 22 11).toArray⟩ : ByteArray) = k3 at m3 xp
  generalize (⟨([0, 1, 2, 3, 4, 5, 6, 7, 8, 9, 10, 11, 12] : List UInt8).toArray⟩ : ByteArray) = k4 at r1 xp
  generalize (⟨([240, 241, 242, 243, 244, 245, 246, 247, 248, 249] : List UInt8).toArray⟩ : ByteArray) = k5 at r2 xs
  have hF := Fr.refl [] w
  have mk1 : True := trivial
  go_enter Tryd.func11, Tryd.ntmps11
  go_wp2_with (first
    | (go_at_call 18; ((with_reducible refine (m1 _).mono ?_)); clear m1; rintro e v1 ⟨rfl, f1⟩; have hF := hF.trans f1)
    | (go_at_call 18; ((with_reducible refine (m2 _).mono ?_)); clear m2; rintro e v2 ⟨rfl, f2⟩; have hF := hF.trans f2)
    | (go_at_call 18; ((with_reducible refine (m3 _).mono ?_)); clear m3; rintro e v3 ⟨rfl, f3⟩; have hF := hF.trans f3)
    | (go_at_call 37; ((with_reducible refine (r1 _).mono ?_)); clear r1; rintro e v4 ⟨rfl, f4⟩; have hF := hF.trans f4)
    | (go_at_call 37; ((with_reducible refine (r2 _).mono ?_)); clear r2; rintro e v5 ⟨rfl, f5⟩; have hF := hF.trans f5)
    | (go_at_call 13; ((with_reducible refine (ha _ _ (hI.keep (hF.trans (Fr.alloc _ _ _))) (hR.keep (hF.trans (Fr.alloc [] _ _)) (by simp)) (At.alloc_new _ _ _)).mono ?_)); clear ha; rintro e v6 ⟨rfl, f6⟩; have hF := hF.trans ((Fr.alloc _ _ _).trans f6))
    | (go_at_call 13; ((with_reducible refine (hb _ _ (hI.keep (hF.trans (Fr.alloc _ _ _))) (hR.keep (hF.trans (Fr.alloc [] _ _)) (by simp)) (At.alloc_new _ _ _)).mono ?_)); clear hb; rintro e v7 ⟨rfl, f7⟩; have hF := hF.trans ((Fr.alloc _ _ _).trans f7))
    | (go_at_call 13; ((with_reducible refine (hc _ _ (hI.keep (hF.trans (Fr.alloc _ _ _))) (hR.keep (hF.trans (Fr.alloc [] _ _)) (by simp)) (At.alloc_new _ _ _)).mono ?_)); clear hc; rintro e v8 ⟨rfl, f8⟩; have hF := hF.trans ((Fr.alloc _ _ _).trans f8))
    | (go_at_call 28; ((with_reducible refine (xp _ (hI.keep hF) (hR.keep hF (by simp))).mono ?_)); clear xp; rintro e v9 ⟨rfl, f9⟩; have hF := hF.trans f9)
    | (go_at_call 30; ((with_reducible refine (xs _ (hI.keep hF) (hR.keep hF (by simp))).mono ?_)); clear xs; rintro e v10 ⟨rfl, f10⟩; have hF := hF.trans f10)
    | (go_at_call 32; ((with_reducible refine (p1 _ (hI.keep hF) (hR.keep hF (by simp))).mono ?_)); clear p1; rintro e v11 ⟨rfl, f11⟩; have hF := hF.trans f11)
    | (go_at_call 32; ((with_reducible refine (p2 _ (hI.keep hF) (hR.keep hF (by simp))).mono ?_)); clear p2; rintro e v12 ⟨rfl, f12⟩; have hF := hF.trans f12)
    | (go_at_call 32; ((with_reducible refine (p3 _ (hI.keep hF) (hR.keep hF (by simp))).mono ?_)); clear p3; rintro e v13 ⟨rfl, f13⟩; have hF := hF.trans f13)
    | (go_at_call 36; ((with_reducible refine (ga _).mono ?_)); clear ga; rintro e v14 ⟨rfl, f14⟩; have hF := hF.trans f14)
    | (go_at_call 36; ((with_reducible refine (gb _).mono ?_)); clear gb; rintro e v15 ⟨rfl, f15⟩; have hF := hF.trans f15)
    | (go_at_call 36; ((with_reducible refine (gc _).mono ?_)); clear gc; rintro e v16 ⟨rfl, f16⟩; have hF := hF.trans f16)
    | (go_at_call 36; ((with_reducible refine (gp _).mono ?_)); clear gp; rintro e v17 ⟨rfl, f17⟩; have hF := hF.trans f17)
    | (go_at_call 36; ((with_reducible refine (gs _).mono ?_)); clear gs; rintro e v18 ⟨rfl, f18⟩; have hF := hF.trans f18)
    | (go_at_call 36; ((with_reducible refine (g1 _).mono ?_)); clear g1; rintro e v19 ⟨rfl, f19⟩; have hF := hF.trans f19)
    | (go_at_call 36; ((with_reducible refine (g2 _).mono ?_)); clear g2; rintro e v20 ⟨rfl, f20⟩; have hF := hF.trans f20)
    | (go_at_call 36; ((with_reducible refine (g3 _).mono ?_)); clear g3; rintro e v21 ⟨rfl, f21⟩; have hF := hF.trans f21)
    | (go_at_call 21; refine (num3_any _ _).mono ?_; rintro e w7 ⟨rfl, rfl⟩)
    | fail)
  go_ret
  exact ⟨rfl, hF⟩
end Go.Proofs.YtbpaknnnkmjgjaaDoor
