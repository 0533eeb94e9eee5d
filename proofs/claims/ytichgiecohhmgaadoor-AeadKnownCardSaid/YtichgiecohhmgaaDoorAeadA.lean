/- The program's layer 6: zeros, lengths, what is handed on piece by piece. -/
import Derived.Test.YtichgiecohhmgaaDoorRep
import Derived.Test.YtichgiecohhmgaaDoorPolyG
import Derived.Test.YtichgiecohhmgaaDoorXor
namespace Go.Proofs.YtichgiecohhmgaaDoor
open Go.RowKit Go.Lib Go.Joins Base
set_option linter.unusedVariables false
set_option linter.unusedSimpArgs false

theorem repeat0 : ∀ c, Lib.repeatL [0] c = zerosB c
  | 0 => rfl
  | c + 1 => by rw [Lib.repeatL, repeat0 c]; simp [zerosB, List.replicate_succ]
theorem zeros_any (c : Nat) (hc : c ≤ 1048576) (w : World) : Calls Tryd.prog 41 #[.string ⟨#[0]⟩, .int .i64 c] w fun e w' => e = .returned (.string ⟨(zerosB c).toArray⟩) ∧ Fr [] w w' := by
  have := repeat_any ⟨#[0]⟩ c w (by omega) (by show 1 * c ≤ _; omega)
  rw [show (⟨#[0]⟩ : ByteArray).data.toList = [0] from rfl, repeat0] at this
  exact this
/-- The zeros that end a block of sixteen bytes. -/
def fillL (n : Nat) : List UInt8 := zerosB ((16 - n % 16) % 16)
theorem fillL_len (n : Nat) : (fillL n).length = (16 - n % 16) % 16 := by simp [fillL, zerosB]
set_option maxRecDepth 100000 in
theorem fill_any (s : ByteArray) (hs : s.size ≤ 4611686018427387904) (w : World) : Calls Tryd.prog 43 #[.string s] w fun e w' => e = .returned (.string ⟨(fillL s.size).toArray⟩) ∧ Fr [] w w' := by
  obtain ⟨c, hc⟩ : ∃ c, c = (16 - s.size % 16) % 16 := ⟨_, rfl⟩
  have c1 := zeros_any c (by omega) w
  have r1 : ∀ t, binOp .rem t (.int .i64 (s.size : Int)) (.int .i64 16) = pure (.int .i64 ((s.size % 16 : Nat) : Int)) := by
    intro t
    simp only [binOp, Op.intDiv]
    rw [if_neg (by simp), if_neg (by omega), Int.tmod_eq_emod_of_nonneg (by omega)]
    rfl
  obtain ⟨x, hx⟩ : ∃ x, x = s.size % 16 := ⟨_, rfl⟩
  rw [← hx] at r1
  have w1 : IntKind.i64.wrap (16 - (x : Int)) = ((16 - x : Nat) : Int) := by rw [IntWalk.i64_in _ (by omega)]; omega
  obtain ⟨y, hy⟩ : ∃ y, y = 16 - x := ⟨_, rfl⟩
  rw [← hy] at w1
  have r2 : ∀ t, binOp .rem t (.int .i64 (y : Int)) (.int .i64 16) = pure (.int .i64 (c : Int)) := by
    intro t
    simp only [binOp, Op.intDiv]
    rw [if_neg (by simp), if_neg (by omega), Int.tmod_eq_emod_of_nonneg (by omega)]
    congr 2; omega
  have HC := Lib.hid hc
  clear hx hy hc
  go_enter Tryd.func43, Tryd.ntmps43
  go_wp2_with (first
    | (go_at_call 41; refine c1.mono ?_; rintro e w1 ⟨rfl, f1⟩)
    | fail)
  have e : fillL s.size = zerosB c := by rw [HC.out]; rfl
  rw [e]
  go_ret
  exact ⟨rfl, f1⟩
/-- A length as eight bytes. -/
def sizeL (n : Nat) : List UInt8 := (List.range 8).map fun i => UInt8.ofNat (n / 2 ^ (8 * i))
theorem sizeL_len (n : Nat) : (sizeL n).length = 8 := by simp [sizeL]
def sizeUp (n i : Nat) : List UInt8 := (sizeL n).take i ++ zerosB (8 - i)
theorem sizeUp_len (n i : Nat) (h : i ≤ 8) : (sizeUp n i).length = 8 := by simp [sizeUp, sizeL_len, zerosB]; omega
theorem sizeUp_step (n : Nat) : ∀ i, i < 8 → (sizeUp n i).set i (UInt8.ofNat (n / 2 ^ (8 * i))) = sizeUp n (i + 1)
  | 0, _ => rfl
  | 1, _ => rfl
  | 2, _ => rfl
  | 3, _ => rfl
  | 4, _ => rfl
  | 5, _ => rfl
  | 6, _ => rfl
  | 7, _ => rfl
  | n + 8, h => by omega
theorem byte_div (n k : Nat) : (n : Int) / 2 ^ k % 256 = bt (UInt8.ofNat (n / 2 ^ k)) := by
  unfold bt
  simp
theorem byte_of (x : Nat) : IntKind.u8.wrap (x : Int) = bt (UInt8.ofNat x) := by
  unfold bt
  simp [IntKind.wrap, IntKind.bits, IntKind.signed]
set_option maxRecDepth 100000 in
set_option maxHeartbeats 1000000 in
theorem size_any (s : ByteArray) (hs : s.size ≤ 4611686018427387904) (w : World) : Calls Tryd.prog 44 #[.string s] w fun e w' => e = .returned (.string ⟨(sizeL s.size).toArray⟩) ∧ Fr [] w w' := by
  obtain ⟨n, hn⟩ : ∃ n, n = s.size := ⟨_, rfl⟩
  have O0 := At.alloc_new w 106 (byteCells (sizeUp n 0)).toArray
  rw [List.toList_toArray] at O0
  have FO := Fr.alloc [] w (.cells (byteCells (sizeUp n 0)).toArray 106)
  rw [← hn]
  have hnI : (s.size : Int) = n := by omega
  have HN := Lib.hid hn
  clear hn
  go_enter Tryd.func44, Tryd.ntmps44
  go_wp2_with fail
  change Code.wp _ _ _ _ (w.alloc (.cells (byteCells (sizeUp n 0)).toArray 106))
  go_loopw [5] (fun v wr => ∃ i : Nat, i ≤ 8 ∧ v = .int .i64 i ∧ At wr w.heap.size 106 (byteCells (sizeUp n i)) ∧ Fr [] w wr) (fun v _ => 8 - (RowKit.intOf v).toNat)
  case atStart => exact ⟨0, by omega, rfl, O0, FO⟩
  case round =>
    clear O0 FO
    obtain ⟨i, hi, rfl, hO, hF⟩ := hrel
    have hol := sizeUp_len n i hi
    by_cases hli : i < 8
    · have l1 : (i : Int) < 8 := by omega
      have w1 : IntKind.i64.wrap (8 * (i : Int)) = ((8 * i : Nat) : Int) := by rw [IntWalk.i64_in _ (by omega)]; omega
      have w2 : IntKind.i64.wrap ((i : Int) + 1) = ((i + 1 : Nat) : Int) := by rw [IntWalk.i64_in _ (by omega)]; omega
      have hst := sizeUp_step n i hli
      have ci := hO.cell i
      have zi := hO.frozen i
      rw [byteCells_getD _ _ (by omega)] at ci
      generalize (sizeUp n i).getD i 0 = old1 at ci
      have hbv := byte_div n (8 * i)
      have hO2 := hO.setCell i (.int .u8 (bt (UInt8.ofNat (n / 2 ^ (8 * i)))))
      rw [byteCells_setD, hst] at hO2
      have F2 := hF.new (S := [w.heap.size]) (Fr.setCell [w.heap.size] wr ⟨w.heap.size, i, none⟩ (.int .u8 (bt (UInt8.ofNat (n / 2 ^ (8 * i))))) (.inl (by simp))) (by simp)
      have HB := Lib.hid hbv
      clear hbv hst hol
      go_wp2_with fail
      rw [HB.out]
      exact ⟨⟨i + 1, by omega, by simp, hO2, F2⟩, by simp only [RowKit.intOf]; omega⟩
    · obtain rfl : i = 8 := by omega
      have l1 : ¬ ((8 : Nat) : Int) < 8 := by omega
      have e8 : sizeUp n 8 = sizeL n := by unfold sizeUp; rw [List.take_of_length_le (by rw [sizeL_len]; omega)]; simp [zerosB]
      rw [e8] at hO
      have hcv := fun c => run_strB (P := Tryd.prog) Tryd.underlying35 Tryd.underlying5 Tryd.underlying9 wr w.heap.size 0 c _ (sizeL n) [] [] (by rw [List.nil_append, List.append_nil]; exact hO) rfl 8 (by simp [sizeL_len])
      clear e8 hol
      go_wp2_with fail
      go_ret
      exact ⟨rfl, hF⟩
end Go.Proofs.YtichgiecohhmgaaDoor
