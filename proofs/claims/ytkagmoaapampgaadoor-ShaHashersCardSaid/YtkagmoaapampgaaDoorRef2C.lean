/- The document's sum: blocks, padding, telling. -/
import Derived.Test.YtkagmoaapampgaaDoorRef2B
import Derived.Test.YtkagmoaapampgaaDoorRow
import Derived.Test.YtkagmoaapampgaaDoorUntil
namespace Go.Proofs.YtkagmoaapampgaaDoor
open Go.RowKit Go.Lib Go.Joins Base
set_option linter.unusedVariables false
set_option linter.unusedSimpArgs false

theorem wpList_built2 {P : Program} {ops : Array Oper} {rest : List Oper} {o : Oper} {a : Act} {w : World} {Q : Exit → Act → World → Prop} (hg : o.guard = none) (t : TypeId) (parts : Array (Nat × Operand)) (ho : o.op = .build t parts) (cells : Array Value)
    (hb : P.built t (parts.map fun (i, x) => (i, a.eval x)).toList = some cells) (h : wpList P ops Q rest (a.put o.dst (.agg cells)) w) : wpList P ops Q (o :: rest) a w := wpList_built hg t parts ho cells hb h

set_option maxRecDepth 100000 in
set_option maxHeartbeats 1000000 in
theorem rfirst_any (w : World) : Calls Tryd.prog 28 #[] w fun e w' => e = .returned (.agg (icells firstL).toArray) ∧ Fr [] w w' := by
  have hsz : (Tryd.prog.info? 58).map (·.size) = some (icells firstL).toArray.size := by kernel_rfl
  have A0 := At.alloc_new w 58 #[Value.int .i64 0, Value.int .i64 0, Value.int .i64 0, Value.int .i64 0, Value.int .i64 0, Value.int .i64 0, Value.int .i64 0, Value.int .i64 0]
  go_enter Tryd.func28, Tryd.ntmps28
  go_wp2_with (first
    | refine wpList_built rfl 58 _ rfl (icells firstL).toArray (by kernel_rfl) ?_
    | refine wpList_built rfl _ _ rfl (icells firstL).toArray (by kernel_rfl) ?_
    | refine wpList_store_row rfl _ _ _ rfl _ _ rfl rfl _ _ A0.out hsz rfl (icells_one _) ?_
    | fail)
  have A1 := A0.setRow (icells firstL).toArray
  rw [List.toList_toArray] at A1
  refine ⟨rfl, _, ?_, rfl, (Fr.alloc _ _ _).trans (Fr.refl _ _) |>.new (S := [w.heap.size]) (Fr.setRow _ _ _ _ (.inl (by simp))) (by simp)⟩
  refine results_cell_row (p := 0) (ty := 58) (by rfl) _ _ w.heap.size 58 _ (0, 0) _ ?_ A1.out Tryd.underlying58 rfl hsz
  simp only [Act.put, List.setIfInBounds_toArray, List.set_cons_zero, List.set_cons_succ, Array.getD_eq_getD_getElem?, List.getElem?_toArray, List.getElem?_cons_succ, List.getElem?_cons_zero, Option.getD_some]

set_option maxRecDepth 100000 in
set_option maxHeartbeats 1000000 in
theorem rblocks_any (H : List UInt32) (hH : H.length = 8) (s : ByteArray) (hs63 : s.size ≤ 2305843009213693952) (w : World) (hP : Powers w) (hQ : RefRoots w) :
    Calls Tryd.prog 27 #[.agg (icells H).toArray, .string s] w fun e w' => e = .returned (.agg (icells (wordsOf H s.data.toList)).toArray) ∧ Fr [] w w' := by
  obtain ⟨S, hS⟩ : ∃ S, S = s.data.toList := ⟨_, rfl⟩
  have hSl : S.length = s.size := by rw [hS]; simp
  have A2 := (At.alloc_new w 58 (icells H).toArray).alloc (.cells #[Value.int .i64 0, Value.int .i64 0, Value.int .i64 0, Value.int .i64 0, Value.int .i64 0, Value.int .i64 0, Value.int .i64 0, Value.int .i64 0] 58)
  rw [List.toList_toArray] at A2
  have A4 := At.alloc_new (w.alloc (.cells (icells H).toArray 58)) 58 #[Value.int .i64 0, Value.int .i64 0, Value.int .i64 0, Value.int .i64 0, Value.int .i64 0, Value.int .i64 0, Value.int .i64 0, Value.int .i64 0]
  rw [show (w.alloc (.cells (icells H).toArray 58)).heap.size = w.heap.size + 1 by simp] at A4
  have F0 := (Fr.alloc [] w (.cells (icells H).toArray 58)).trans (Fr.alloc [] _ (.cells #[Value.int .i64 0, Value.int .i64 0, Value.int .i64 0, Value.int .i64 0, Value.int .i64 0, Value.int .i64 0, Value.int .i64 0, Value.int .i64 0] 58))
  rw [← hS]
  have HS := Lib.hid (And.intro hS hSl)
  clear hS hSl
  go_enter Tryd.func27, Tryd.ntmps27
  go_wp2_with fail
  go_loopw [5] (fun v wr => ∃ k : Nat, 64 * k ≤ s.size ∧ v = .int .i64 (64 * k : Nat) ∧ At wr w.heap.size 58 (icells (blocksL H S k)) ∧ At wr (w.heap.size + 1) 58 [Value.int .i64 0, Value.int .i64 0, Value.int .i64 0, Value.int .i64 0, Value.int .i64 0, Value.int .i64 0, Value.int .i64 0, Value.int .i64 0] ∧ Fr [] w wr) (fun v _ => s.size - (intOf v).toNat)
  case atStart => exact ⟨0, by omega, rfl, A2, A4, F0⟩
  case round =>
    clear A2 A4 F0
    obtain ⟨k, hk, rfl, A2, A4, hF⟩ := hrel
    have hbl := blocksL_len H S hH k
    have hsz : (Tryd.prog.info? 58).map (·.size) = some (icells (blocksL H S k)).toArray.size := by rw [List.size_toArray, icells_len, hbl]; kernel_rfl
    have w1 : IntKind.i64.wrap (((64 * k : Nat) : Int) + 64) = ((64 * k + 64 : Nat) : Int) := by rw [IntWalk.i64_in _ (by omega)]; omega
    by_cases hl : 64 * k + 64 ≤ s.size
    · have l1 : ((64 * k + 64 : Nat) : Int) ≤ s.size := by omega
      have cB : ∀ w', Powers w' → RefRoots w' → Calls Tryd.prog 44 #[.agg (icells (blocksL H S k)).toArray, .string s, .int .i64 ((64 * k : Nat) : Int)] w' fun e w'' => e = .returned (.agg (icells (blocksL H S (k + 1))).toArray) ∧ Fr [] w' w'' := fun w' h1 h2 => by
        rw [blocksL, HS.out.1]; exact refblock_any _ (by rw [← HS.out.1]; exact hbl) s (64 * k) hl (by omega) w' h1 h2
      have hbl2 := blocksL_len H S hH (k + 1)
      have hsz2 : (Tryd.prog.info? 58).map (·.size) = some (icells (blocksL H S (k + 1))).toArray.size := by rw [List.size_toArray, icells_len, hbl2]; kernel_rfl
      have hold : (icells (blocksL H S k)).toArray.size = (icells (blocksL H S (k + 1))).toArray.size := by rw [List.size_toArray, List.size_toArray, icells_len, icells_len, hbl, hbl2]
      have HL := Lib.hid hl
      generalize hX : icells (blocksL H S k) = X at A2 cB hsz hold
      generalize hY : icells (blocksL H S (k + 1)) = Y at cB hsz2 hold
      have hY1 : Y.toArray.all (·.oneCell') = true := by rw [← hY]; exact icells_one _
      have HY := Lib.hid hY
      generalize hq : 64 * k = kk at w1 l1 cB
      have HQ := Lib.hid hq
      clear hl hX hY hbl hbl2 hq hk
      go_wp2_with (first
        | refine wpList_load_row rfl _ _ rfl _ rfl _ _ _ _ A2.out Tryd.underlying58 rfl hsz ?_
        | (go_at_call 44; refine (cB _ (hP.keep hF) (hQ.keep hF)).mono ?_; rintro _ w3 ⟨rfl, f3⟩; have A2 := f3.keep A2 (by simp); have A4 := f3.keep A4 (by simp); have hF := hF.trans f3)
        | refine wpList_store_row rfl _ _ _ rfl _ _ rfl rfl _ _ A2.out hsz2 hold hY1 ?_
        | fail)
      have A2' := A2.setRow Y.toArray
      rw [List.toList_toArray] at A2'
      refine ⟨⟨k + 1, by have := HL.out; omega, by have := HQ.out; subst this; simp; omega, by rw [HY.out]; exact A2', A4.setRow_other (by omega) _, hF.new (S := [w.heap.size]) (Fr.setRow _ _ _ _ (.inl (by simp))) (by simp)⟩, ?_⟩
      have := HL.out; have := HQ.out; simp only [intOf]; omega
    · have l1 : ¬ ((64 * k + 64 : Nat) : Int) ≤ s.size := by omega
      have hkk : k = S.length / 64 := by have := HS.out.2; omega
      have hold : [Value.int .i64 0, Value.int .i64 0, Value.int .i64 0, Value.int .i64 0, Value.int .i64 0, Value.int .i64 0, Value.int .i64 0, Value.int .i64 0].toArray.size = (icells (blocksL H S k)).toArray.size := by rw [List.size_toArray, List.size_toArray, icells_len, hbl]; rfl
      have hans : wordsOf H S = blocksL H S k := by unfold wordsOf; rw [hkk]
      generalize hX : icells (blocksL H S k) = X at A2 hsz hold
      have HA := Lib.hid (show icells (wordsOf H S) = X by rw [hans, hX])
      have hX1 : X.toArray.all (·.oneCell') = true := by rw [← hX]; exact icells_one _
      clear hl hkk hans hX hbl
      go_wp2_with (first
        | refine wpList_load_row rfl _ _ rfl _ rfl _ _ _ _ A2.out Tryd.underlying58 rfl hsz ?_
        | refine wpList_store_row rfl _ _ _ rfl _ _ rfl rfl _ _ A4.out hsz hold hX1 ?_
        | fail)
      have A4' := A4.setRow X.toArray
      rw [List.toList_toArray] at A4'
      rw [HA.out]
      refine ⟨rfl, _, ?_, rfl, hF.new (S := [w.heap.size + 1]) (Fr.setRow _ _ _ _ (.inl (by simp))) (by simp)⟩
      refine results_cell_row (p := 4) (ty := 58) (by rfl) _ _ (w.heap.size + 1) 58 _ (0, 0) _ ?_ A4'.out Tryd.underlying58 rfl hsz
      simp only [Act.put, List.setIfInBounds_toArray, List.set_cons_zero, List.set_cons_succ, Array.getD_eq_getD_getElem?, List.getElem?_toArray, List.getElem?_cons_succ, List.getElem?_cons_zero, Option.getD_some]

set_option maxRecDepth 100000 in
set_option maxHeartbeats 1000000 in
theorem reight_any (n : Nat) (hn : n < 9223372036854775808) (w : World) :
    Calls Tryd.prog 45 #[.int .i64 n] w fun e w' => e = .returned (.string ⟨(bigL n 8).toArray⟩) ∧ Fr [] w w' := by
  have hmk : ∀ w, (Instr.makeSlice 28 (.int .i64 8) (.int .i64 8)).run Tryd.prog w = .ok (.slice (some ⟨w.heap.size, 0, none⟩) 8 8) (w.alloc (.cells (byteCells (zerosB 8)).toArray 5)) := fun w => by kernel_rfl
  have hl8 := bigL_len n 8
  go_enter Tryd.func45, Tryd.ntmps45
  go_wp2_with fail
  go_loopw [0, 4] (fun v0 v4 wr => ∃ i : Nat, i ≤ 8 ∧ v4 = .int .i64 i ∧ v0 = .int .i64 ((n / 256 ^ i : Nat) : Int) ∧ At wr w.heap.size 5 (byteCells (zerosB (8 - i) ++ (bigL n 8).drop (8 - i))) ∧ Fr [] w wr) (fun _ v _ => 8 - (intOf v).toNat)
  case atStart => exact ⟨0, by omega, rfl, by simp, by have := At.alloc_new w 5 (byteCells (zerosB 8)).toArray; have e : (bigL n 8).drop (8 - 0) = [] := (List.drop_eq_nil_of_le (by omega)); rw [e]; simpa using this, Fr.alloc _ _ _⟩
  case round =>
    obtain ⟨i, hi, rfl, rfl, hA, hF⟩ := hrel
    by_cases hl : i < 8
    · have l1 : (i : Int) < 8 := by omega
      have w7 : IntKind.i64.wrap (7 - (i : Int)) = ((7 - i : Nat) : Int) := by rw [IntWalk.i64_in _ (by omega)]; omega
      have q7 : ((7 - i : Nat) : Int) < 8 := by omega
      have hx : n / 256 ^ i < 9223372036854775808 := Nat.lt_of_le_of_lt (Nat.div_le_self _ _) hn
      have hnx : n / 256 ^ (i + 1) = n / 256 ^ i / 256 := by rw [Nat.pow_succ, Nat.div_div_eq_div_mul]
      have hd : (bigL n 8).drop (8 - (i + 1)) = UInt8.ofNat (n / 256 ^ i) :: (bigL n 8).drop (8 - i) := by
        have h1 : 8 - (i + 1) < (bigL n 8).length := by omega
        rw [List.drop_eq_getElem_cons h1]
        have h2 := bigL_get n 8 (8 - (i + 1)) (by omega)
        rw [List.getElem?_eq_getElem h1] at h2
        injection h2 with h2
        rw [h2, show 8 - 1 - (8 - (i + 1)) = i by omega, show 8 - (i + 1) + 1 = 8 - i by omega]
      have hset : (zerosB (8 - i) ++ (bigL n 8).drop (8 - i)).set (7 - i) (UInt8.ofNat (n / 256 ^ i)) = zerosB (8 - (i + 1)) ++ (bigL n 8).drop (8 - (i + 1)) := by
        rw [hd, show 8 - i = (7 - i) + 1 by omega, zerosB_succ, List.append_assoc, List.set_append_right _ _ (by simp [zerosB])]
        simp [zerosB]
      have ci := hA.cell (7 - i)
      rw [byteCells_get _ _ (by simp [zerosB, hl8]; omega)] at ci
      have fi := hA.frozen (7 - i)
      generalize (zerosB (8 - i) ++ (bigL n 8).drop (8 - i)).getD (7 - i) 0 = old at ci
      generalize n / 256 ^ i = x at hx hnx hset
      have r1 : ∀ t, binOp .rem t (.int .i64 (x : Int)) (.int .i64 256) = pure (.int .i64 ((x % 256 : Nat) : Int)) := by
        intro t
        have e : (x : Int) % 256 = ((x % 256 : Nat) : Int) := by omega
        rw [← e]
        simp [binOp, Op.intDiv]
        rw [Int.tmod_eq_emod_of_nonneg (by omega)]
      have r2 : ∀ t, binOp .quo t (.int .i64 (x : Int)) (.int .i64 256) = pure (.int .i64 ((x / 256 : Nat) : Int)) := by
        intro t
        have e : (x : Int) / 256 = ((x / 256 : Nat) : Int) := by omega
        rw [← e]
        simp [binOp, Op.intDiv]
        rw [IntWalk.i64_in _ (by omega)]
      have r3 : IntKind.u8.wrap ((x % 256 : Nat) : Int) = bt (UInt8.ofNat x) := by
        rw [wrap8_nat _ (by omega)]
        unfold bt; simp
      generalize ((x % 256 : Nat) : Int) = y at r1 r3
      generalize hn7 : 7 - i = n7 at w7 q7 ci fi hset
      have HS := Lib.hid (And.intro hset hnx)
      clear hset hnx hx hd
      go_wp2_with fail
      refine ⟨⟨i + 1, by omega, by simp, by rw [HS.out.2]; first | rfl | simp, ?_, ?_⟩, by simp only [intOf]; omega⟩
      · rw [← HS.out.1, ← byteCells_set]; exact hA.setCell n7 _
      · exact hF.new (S := [w.heap.size]) (Fr.setCell [w.heap.size] wr ⟨w.heap.size, n7, none⟩ _ (.inl (by simp))) (by simp)
    · obtain rfl : i = 8 := by omega
      have e8 : zerosB (8 - 8) ++ (bigL n 8).drop (8 - 8) = bigL n 8 := by simp [zerosB]
      rw [e8] at hA
      have hcv : (convert 28 9 (.slice (some ⟨w.heap.size, 0, none⟩) 8 8)).run Tryd.prog wr = .ok (.string ⟨(bigL n 8).toArray⟩) wr := run_strB (P := Tryd.prog) (d := 9) Tryd.underlying28 Tryd.underlying5 Tryd.underlying9 wr w.heap.size 0 8 _ (bigL n 8) [] [] (by simpa using hA) rfl 8 hl8.symm
      clear hl8 e8
      go_wp2_with fail
      go_ret
      exact ⟨rfl, hF⟩
end Go.Proofs.YtkagmoaapampgaaDoor
