/- big of the program: the lowest bytes of a number behind a row; words: eight words as bytes. -/
import Derived.Test.YtkagmoaapampgaaDoorShaB
import Derived.Test.YtkagmoaapampgaaDoorRow
import Derived.Test.YtkagmoaapampgaaDoorRows
import Derived.Test.YtkagmoaapampgaaDoorUntil
namespace Go.Proofs.YtkagmoaapampgaaDoor
open Go.RowKit Go.Lib Base
set_option linter.unusedVariables false
set_option linter.unusedSimpArgs false

theorem shr_byte (t : TypeId) (v i : Nat) (hi : i < 8) (hv : v < 18446744073709551616) : binOp .shr t (.int .u64 (v : Int)) (.int .i64 (8 * (i : Int))) = pure (.int .u64 ((v / 256 ^ i : Nat) : Int)) := by
  rw [binOp_shr]
  have e : (256 : Nat) ^ i = 2 ^ (8 * i) := by rw [Nat.pow_mul]
  have e2 : (8 * (i : Int)).toNat = 8 * i := by omega
  have e3 : min (8 * i) IntKind.u64.bits = 8 * i := by show min (8 * i) 64 = 8 * i; omega
  have e4 : ¬ (8 * (i : Int) < 0) := by omega
  have e5 : (v : Int).fdiv (2 ^ (8 * i)) = ((v / 2 ^ (8 * i) : Nat) : Int) := by
    rw [Int.fdiv_eq_ediv_of_nonneg _ (Int.le_of_lt (Int.pow_pos (by decide)))]; simp
  rw [e, ← e5]
  simp [Op.shift, e2, e3, e4]
  rw [Int.fdiv_eq_ediv_of_nonneg _ (Int.le_of_lt (Int.pow_pos (by decide)))]
theorem byte_of (v : Nat) : IntKind.u8.wrap (v : Int) = bt (UInt8.ofNat v) := by
  unfold bt; simp [IntKind.wrap, IntKind.bits, IntKind.signed]

set_option maxRecDepth 100000 in
set_option maxHeartbeats 1000000 in
theorem big_any (base : Nat) (xs : List UInt8) (k : Nat) (v : Value) (val : Nat) (hval : val < 18446744073709551616) (n : Nat) (hn : n ≤ 8) (hk : k ≤ 1099511627776) (w : World) (h : w.ownsRow base 5 1 v k (byteCells xs)) (hb : base ≤ w.heap.size) :
    Calls Tryd.prog 42 #[v, .int .u64 (val : Int), .int .i64 (n : Int)] w fun e w' => ∃ v', e = .returned v' ∧ w'.ownsRow base 5 1 v' (k + n) (byteCells (xs ++ bigL val n)) ∧ Below base w w' := by
  have hi5 : (Tryd.prog.info? 5).map (fun i => (i.zero, i.size, i.bytes)) = some (some (.int .u8 0), 1, 1) := by kernel_rfl
  obtain ⟨iI, hiI, hz0, hz1, hz2⟩ := info_parts hi5
  go_enter Tryd.func42, Tryd.ntmps42
  go_wp2_with fail
  go_loopw [0, 2] (fun vb vn wr => ∃ i : Nat, i ≤ n ∧ vn = .int .i64 ((i : Int) - 1) ∧ wr.ownsRow base 5 1 vb (k + (n - i)) (byteCells (xs ++ (bigL val n).take (n - i))) ∧ Below base w wr) (fun _ v _ => ((intOf v) + 1).toNat)
  case atStart => exact ⟨n, Nat.le_refl _, rfl, by simpa using h, Below.refl _ _⟩
  case round =>
    clear h
    obtain ⟨i, hi, rfl, h0, hF⟩ := hrel
    by_cases hl : 1 ≤ i
    · obtain ⟨j, rfl⟩ : ∃ j, i = j + 1 := ⟨i - 1, by omega⟩
      have e1 : ((j + 1 : Nat) : Int) - 1 = j := by omega
      rw [e1]
      have l1 : (0 : Int) ≤ j := by omega
      have hw : IntKind.i64.wrap (8 * (j : Int)) = 8 * (j : Int) := IntWalk.i64_in _ (by omega)
      have hw2 : IntKind.i64.wrap ((j : Int) - 1) = (j : Int) - 1 := IntWalk.i64_in _ (by omega)
      have hs := fun t => shr_byte t val j (by omega) hval
      have hb2 := byte_of (val / 256 ^ j)
      have ht := Lib.hid (bigL_take val n j (by omega))
      have hsz := hF.size
      obtain ⟨z, hz⟩ : ∃ z, z = UInt8.ofNat (val / 256 ^ j) := ⟨_, rfl⟩
      rw [← hz] at hb2 ht
      clear hz
      generalize ((val / 256 ^ j : Nat) : Int) = q at hs hb2
      have A2 := At.alloc_new wr 5 #[Value.int .u8 (bt z)]
      go_wp2_with (first
        | (at_builtin; refine wpList_append_own _ rfl _ _ _ rfl base 5 iI (.int .u8 0) 1 1 Tryd.underlying28 hiI hz0 hz1 hz2 rfl (by decide) _ (k + (n - (j + 1))) _ rfl (World.ownsRow.alloc h0 _) ⟨wr.heap.size, 0, none⟩ 1 1 (byteCells [z]) rfl rfl (by intro j u hj; rw [addr_add', Nat.zero_add]; exact (A2.cell j).trans hj) (byteCells_one _) (by simp [maxLen]; omega) (by omega) (by simp; omega) ?_; intro v2 w2 o2 gr2 _)
        | fail)
      refine ⟨⟨j, by omega, rfl, ?_, ?_⟩, by simp only [intOf]; omega⟩
      · rw [ht.out, show k + (n - j) = k + (n - (j + 1)) + 1 by omega]
        simpa [byteCells] using o2
      · refine (hF.alloc (by omega) _).grown gr2 (by simp; omega) ?_
        intro x hx
        exact (h0.lt x (show u0.ownBlock = some x from hx)).1
    · obtain rfl : i = 0 := by omega
      go_wp2_with fail
      go_ret
      exact ⟨_, rfl, by simpa [bigL_len, List.take_of_length_le] using h0, hF⟩
end Go.Proofs.YtkagmoaapampgaaDoor
