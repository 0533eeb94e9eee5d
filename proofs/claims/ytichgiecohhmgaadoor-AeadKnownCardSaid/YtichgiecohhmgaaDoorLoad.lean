/- Words out of bytes and bytes out of words; the states of chacha. -/
import Derived.Test.YtichgiecohhmgaaDoorStir
import Derived.Test.YtichgiecohhmgaaDoorBytes
namespace Go.Proofs.YtichgiecohhmgaaDoor
open Go.RowKit Go.Lib Base
set_option linter.unusedVariables false
set_option linter.unusedSimpArgs false

theorem word_any (s : ByteArray) (a b c d : UInt8) (r : List UInt8) (hs : s.data.toList = a :: b :: c :: d :: r) (w : World) :
    Calls Tryd.prog 53 #[.string s] w fun e w' => e = .returned (.int .u32 (wd (le4 a b c d))) ∧ ∃ n, w' = w.drewN n := by
  have hsz : 4 ≤ s.size := by have := congrArg List.length hs; simp at this; omega
  have l0 : (0 : Int) < s.size := by omega
  have l1 : (1 : Int) < s.size := by omega
  have l2 : (2 : Int) < s.size := by omega
  have l3 : (3 : Int) < s.size := by omega
  have g0 : s[0] = a := bget _ (by rw [hs]; rfl)
  have g1 : s[1] = b := bget _ (by rw [hs]; rfl)
  have g2 : s[2] = c := bget _ (by rw [hs]; rfl)
  have g3 : s[3] = d := bget _ (by rw [hs]; rfl)
  go_enter Tryd.func53, Tryd.ntmps53
  go_wp2_with fail
  go_region
  go_wp2_with fail
  go_ret
  exact ⟨rfl, 1, rfl⟩

theorem head_any (w : World) :
    Calls Tryd.prog 52 #[] w fun e w' => e = .returned (.agg #[.int .u32 1634760805, .int .u32 857760878, .int .u32 2036477234, .int .u32 1797285236]) ∧ Fr [] w w' := by
  go_enter Tryd.func52, Tryd.ntmps52
  go_wp2_with fail
  refine ⟨rfl, _, ?_, rfl, Fr.alloc _ _ _⟩
  refine results_cell_row (p := 0) (ty := 74) (by rfl) _ _ w.heap.size 74 _ (0, 0) _ ?_ (At.alloc_new w 74 #[_, _, _, _]).out Tryd.underlying74 rfl (by kernel_rfl)
  rfl

theorem addr_add' (b o k : Nat) : (⟨b, o, none⟩ : Addr).add k = ⟨b, o + k, none⟩ := by unfold Addr.add; split <;> simp_all
theorem extract_rest (k : ByteArray) (a n : Nat) (h : k.size = n) : (k.extract a n).data.toList = k.data.toList.drop a := by
  have hl : k.data.toList.length = n := by simpa using h
  rw [ByteArray.data_extract, Array.toList_extract, List.extract_eq_take_drop]
  apply List.take_of_length_le
  simp; omega
theorem fill_set (pre ws : List UInt32) (i n : Nat) (x : UInt32) (hg : ws[i]? = some x) (hn : i < n) :
    (pre ++ ws.take i ++ List.replicate (n - i) 0).set (pre.length + i) x = pre ++ ws.take (i + 1) ++ List.replicate (n - (i + 1)) 0 := by
  have hi : i < ws.length := by
    rcases Nat.lt_or_ge i ws.length with h | h
    · exact h
    · simp [List.getElem?_eq_none h] at hg
  have e1 : ws.take (i + 1) = ws.take i ++ [x] := by
    rw [List.take_add_one, hg]; rfl
  have e2 : List.replicate (n - i) (0 : UInt32) = 0 :: List.replicate (n - (i + 1)) 0 := by
    rw [show n - i = (n - (i + 1)) + 1 by omega]; rfl
  have e3 : (pre ++ ws.take i).length = pre.length + i := by simp; omega
  rw [e1, e2, ← e3, List.set_append_right _ _ (Nat.le_refl _), Nat.sub_self]
  simp
def z16 : Array Value := #[Value.int IntKind.u32 0, Value.int IntKind.u32 0, Value.int IntKind.u32 0, Value.int IntKind.u32 0, Value.int IntKind.u32 0, Value.int IntKind.u32 0, Value.int IntKind.u32 0, Value.int IntKind.u32 0, Value.int IntKind.u32 0, Value.int IntKind.u32 0, Value.int IntKind.u32 0, Value.int IntKind.u32 0, Value.int IntKind.u32 0, Value.int IntKind.u32 0, Value.int IntKind.u32 0, Value.int IntKind.u32 0]
def heads : List UInt32 := [1634760805, 857760878, 2036477234, 1797285236]
def loadAt (K : List UInt8) (i : Nat) : List UInt32 := heads ++ (words K).take i ++ List.replicate (12 - i) 0
def load2At (K R : List UInt8) (m j : Nat) : List UInt32 := (heads ++ words K ++ List.replicate m 0) ++ (words R).take j ++ List.replicate (4 - m - j) 0
set_option maxRecDepth 100000 in
set_option maxHeartbeats 1000000 in
theorem load_any (k r : ByteArray) (hk : k.size = 32) (m : Nat) (hm : m ≤ 1) (hr : r.size = 4 * (4 - m)) (w : World) :
    Calls Tryd.prog 33 #[.string k, .string r, .int .i64 m] w fun e w' => e = .returned (.agg (wcells (heads ++ words k.data.toList ++ List.replicate m 0 ++ words r.data.toList)).toArray) ∧ Fr [] w w' := by
  have hi53 : (Tryd.prog.info? 54).map (·.size) = some 1 := by kernel_rfl
  have hlk : k.data.toList.length = 32 := by simpa using hk
  go_enter Tryd.func33, Tryd.ntmps33
  go_wp2_with (first | (go_at_call 52; refine (head_any _).mono ?_; rintro e w' ⟨rfl, hf1⟩) | fail)
  have h0 : At w' w.heap.size 56 (List.replicate 16 (.int .u32 0)) := hf1.keep ((At.alloc_new w 56 z16).alloc (.cells z16 56)) (by simp)
  have h1 : At w' (w.heap.size + 1) 56 (List.replicate 16 (.int .u32 0)) := by
    have := hf1.keep (At.alloc_new (w.alloc (.cells z16 56)) 56 z16) (by simp)
    simpa [z16] using this
  have hlt := h1.lt
  have h2 := At.alloc_new w' 74 #[Value.int IntKind.u32 1634760805, Value.int IntKind.u32 857760878, Value.int IntKind.u32 2036477234, Value.int IntKind.u32 1797285236]
  have h0 := h0.alloc (.cells #[Value.int IntKind.u32 1634760805, Value.int IntKind.u32 857760878, Value.int IntKind.u32 2036477234, Value.int IntKind.u32 1797285236] 74)
  have h1 := h1.alloc (.cells #[Value.int IntKind.u32 1634760805, Value.int IntKind.u32 857760878, Value.int IntKind.u32 2036477234, Value.int IntKind.u32 1797285236] 74)
  have hf : Fr [] w (w'.alloc (.cells #[Value.int IntKind.u32 1634760805, Value.int IntKind.u32 857760878, Value.int IntKind.u32 2036477234, Value.int IntKind.u32 1797285236] 74)) := (((Fr.alloc _ _ _).trans (Fr.alloc _ _ _)).trans hf1).trans (Fr.alloc _ _ _)
  obtain ⟨W, hW⟩ : ∃ W, W = w'.alloc (.cells #[Value.int IntKind.u32 1634760805, Value.int IntKind.u32 857760878, Value.int IntKind.u32 2036477234, Value.int IntKind.u32 1797285236] 74) := ⟨_, rfl⟩
  rw [← hW] at h0 h1 h2 hf ⊢
  clear hW hf1
  have hcp : ∀ q, (Builtin.copy_ #[67, 67] 3 #[.slice (some ⟨w.heap.size + 1, 0, none⟩) 16 16, .slice (some ⟨w'.heap.size, 0, none⟩) 4 4]).run Tryd.prog (W.drewN q) = .ok (goInt 4) ((W.drewN q).setRow (w.heap.size + 1) (wcells (loadAt k.data.toList 0)).toArray) := by
    intro q
    have := run_copy_row (P := Tryd.prog) (ty := 3) (W.drewN q) 67 67 54 (w.heap.size + 1) 0 16 16 ⟨w'.heap.size, 0, none⟩ 4 4 _ _ [Value.int IntKind.u32 1634760805, Value.int IntKind.u32 857760878, Value.int IntKind.u32 2036477234, Value.int IntKind.u32 1797285236] Tryd.underlying67 hi53 (h1.drewN q).out (by simp) (by
      intro j v hj
      rw [addr_add', (h2.drewN q).cell, Nat.zero_add]; exact hj) (by simp) (by simp [Value.oneCell'])
    rw [this]
    simp [loadAt, heads, wcells, wd, List.replicate]
  have hcp1 := hcp 1
  rw [show W.drewN 1 = W.drew from rfl] at hcp1
  have h3 := h1.setRow (wcells (loadAt k.data.toList 0)).toArray
  rw [List.toList_toArray] at h3
  have h4 := h0.setRow_other (show w.heap.size ≠ w.heap.size + 1 by omega) (wcells (loadAt k.data.toList 0)).toArray
  have hf3 : Fr [] w (W.setRow (w.heap.size + 1) (wcells (loadAt k.data.toList 0)).toArray) := hf.new (S := [w.heap.size + 1]) (Fr.setRow _ _ _ _ (.inl (by simp))) (by simp)
  go_region
  clear hcp hcp1
  go_wp2_with fail
  go_loopw [15] (fun v wr => ∃ i : Nat, i ≤ 8 ∧ v = .int .i64 i ∧ At wr w.heap.size 56 (List.replicate 16 (.int .u32 0)) ∧ At wr (w.heap.size + 1) 56 (wcells (loadAt k.data.toList i)) ∧ Fr [] w wr) (fun v _ => 8 - (intOf v).toNat)
  case atStart => exact ⟨0, by omega, rfl, h4, h3, hf3.trans (Fr.drew _ _)⟩
  case round =>
    clear h0 h1 h2 h3 h4 hf hf3 hlt
    obtain ⟨i, hi, rfl, h0, h1, hf⟩ := hrel
    by_cases hl : i < 8
    · obtain ⟨a, b, c, d, r', hd, hg⟩ := words_get i k.data.toList (by omega)
      have hext : ∀ x, x = 4 * i → (k.extract x 32).data.toList = a :: b :: c :: d :: r' := by
        rintro x rfl
        rw [← hd]
        exact extract_rest k _ 32 hk
      have hlen : (loadAt k.data.toList i).length = 16 := by
        have := words_len 8 k.data.toList (by omega)
        simp [loadAt, heads]; omega
      have hs : wcells (loadAt k.data.toList (i + 1)) = (wcells (loadAt k.data.toList i)).set (4 + i) (.int .u32 (wd (le4 a b c d))) := by
        rw [wcells_set]
        exact congrArg wcells (fill_set heads _ i 12 _ hg (by omega)).symm
      have hc := h1.cell (4 + i)
      rw [wcells_get _ _ (by omega)] at hc
      have hz := h1.frozen (4 + i)
      generalize (loadAt k.data.toList i).getD (4 + i) 0 = y at hc
      have hs := Lib.hid hs
      go_wp2_with (first | (go_at_call 53; refine (word_any _ a b c d r' (hext _ rfl) _).mono ?_; rintro e w' ⟨rfl, nq, rfl⟩) | fail)
      refine ⟨⟨i + 1, by omega, by simp, ?_, ?_, ?_⟩, by simp only [intOf]; omega⟩
      · exact (h0.setCell_other (show w.heap.size ≠ w.heap.size + 1 by omega) _).drewN nq
      · rw [hs.out]
        exact (h1.setCell (4 + i) _).drewN nq
      · exact (hf.new (S := [w.heap.size + 1]) (Fr.setCell _ _ _ _ (.inl (by simp))) (by simp)).trans (Fr.drewN _ _ _)
    · obtain rfl : i = 8 := by omega
      have hlr : r.data.toList.length = 4 * (4 - m) := by simpa using hr
      have hwk := words_len 8 k.data.toList (by omega)
      have hwr := words_len (4 - m) r.data.toList hlr
      have e8 : loadAt k.data.toList 8 = load2At k.data.toList r.data.toList m 0 := by
        unfold loadAt load2At
        rw [List.take_of_length_le (by omega)]
        obtain rfl | rfl : m = 0 ∨ m = 1 := by omega
        · simp
        · simp [List.replicate]
      rw [e8] at h1
      go_wp2_with fail
      go_loopw [10] (fun v wr => ∃ j : Nat, m + j ≤ 4 ∧ v = .int .i64 (m + j : Nat) ∧ At wr w.heap.size 56 (List.replicate 16 (.int .u32 0)) ∧ At wr (w.heap.size + 1) 56 (wcells (load2At k.data.toList r.data.toList m j)) ∧ Fr [] w wr) (fun v _ => 4 - (intOf v).toNat)
      case atStart => exact ⟨0, by omega, by simp, h0, h1, hf⟩
      case round =>
        clear h0 h1 hf
        obtain ⟨j, hj, rfl, h0, h1, hf⟩ := hrel
        by_cases hl : m + j < 4
        · obtain ⟨a, b, c, d, r', hd, hg⟩ := words_get j r.data.toList (by omega)
          have hext : ∀ x n, x = 4 * j → n = r.size → (r.extract x n).data.toList = a :: b :: c :: d :: r' := by
            rintro x n rfl rfl
            rw [← hd]
            exact extract_rest r _ _ rfl
          have hlen : (load2At k.data.toList r.data.toList m j).length = 16 := by
            simp [load2At, heads]; omega
          have hs : wcells (load2At k.data.toList r.data.toList m (j + 1)) = (wcells (load2At k.data.toList r.data.toList m j)).set (12 + (m + j)) (.int .u32 (wd (le4 a b c d))) := by
            rw [wcells_set]
            have := fill_set (heads ++ words k.data.toList ++ List.replicate m 0) _ j (4 - m) _ hg (by omega)
            rw [show (heads ++ words k.data.toList ++ List.replicate m (0 : UInt32)).length + j = 12 + (m + j) by simp [heads]; omega] at this
            exact congrArg wcells this.symm
          have hc := h1.cell (12 + (m + j))
          rw [wcells_get _ _ (by omega)] at hc
          have hz := h1.frozen (12 + (m + j))
          generalize (load2At k.data.toList r.data.toList m j).getD (12 + (m + j)) 0 = y at hc
          have hs' := Lib.hid hs
          clear hs
          go_wp2_with (first | (go_at_call 53; refine (word_any _ a b c d r' (hext _ _ rfl hr.symm) _).mono ?_; rintro e w' ⟨rfl, nq, rfl⟩) | fail)
          refine ⟨⟨_, _, _, _, _, _, _, _, _, _, _, _, _, _, _, ⟨j + 1, by omega, ?_, ?_, ?_, ?_⟩, rfl⟩, ?_⟩
          · simp; omega
          · exact (h0.setCell_other (show w.heap.size ≠ w.heap.size + 1 by omega) _).drewN nq
          · rw [hs'.out]
            exact (h1.setCell (12 + (m + j)) _).drewN nq
          · exact (hf.new (S := [w.heap.size + 1]) (Fr.setCell _ _ _ _ (.inl (by simp))) (by simp)).trans (Fr.drewN _ _ _)
          · show 4 - (intOf (Value.int .i64 ((m : Int) + j + 1))).toNat < 4 - (intOf (Value.int .i64 ((m + j : Nat) : Int))).toNat
            simp only [intOf]; omega
        · obtain rfl : j = 4 - m := by omega
          have efin : load2At k.data.toList r.data.toList m (4 - m) = heads ++ words k.data.toList ++ List.replicate m 0 ++ words r.data.toList := by
            unfold load2At
            rw [List.take_of_length_le (by omega), Nat.sub_self]
            simp
          have hsl : (heads ++ words k.data.toList ++ List.replicate m 0 ++ words r.data.toList).length = 16 := by
            simp [heads]; omega
          rw [efin] at h1
          generalize hsd : heads ++ words k.data.toList ++ List.replicate m 0 ++ words r.data.toList = s at h1 hsl
          have hsz : (Tryd.prog.info? 56).map (·.size) = some (wcells s).toArray.size := by
            rw [List.size_toArray]
            simp only [wcells, List.length_map, hsl]
            kernel_rfl
          have hall : (wcells s).toArray.all (·.oneCell') = true := all_oneCell_toArray (by intro v hv; obtain ⟨x, _, rfl⟩ := List.mem_map.1 hv; rfl)
          have hold : (List.replicate 16 (Value.int IntKind.u32 0)).toArray.size = (wcells s).toArray.size := by simp [wcells, hsl]
          go_wp2_with (first
            | refine wpList_load_row rfl _ _ rfl _ rfl _ _ _ _ h1.out Tryd.underlying56 rfl hsz ?_
            | refine wpList_store_row rfl _ _ _ rfl _ _ rfl rfl _ _ h0.out hsz hold hall ?_
            | fail)
          have h0' : At (wr.setRow w.heap.size (wcells s).toArray) w.heap.size 56 (wcells s) := by
            have := h0.setRow (wcells s).toArray
            rwa [List.toList_toArray] at this
          refine ⟨rfl, .agg (wcells s).toArray, ?_, by rw [hsd], hf.new (S := [w.heap.size]) (Fr.setRow _ _ _ _ (.inl (by simp))) (by simp)⟩
          refine results_cell_row (fn := Tryd.f33) (p := 6) (ty := 56) (by rfl) _ _ w.heap.size 56 (wcells s).toArray (0, 0) _ ?_ h0'.out Tryd.underlying56 rfl hsz
          simp only [Act.put, List.setIfInBounds_toArray, List.set_cons_zero, List.set_cons_succ, Array.getD_eq_getD_getElem?, List.getElem?_toArray, List.getElem?_cons_succ, List.getElem?_cons_zero, Option.getD_some]
end Go.Proofs.YtichgiecohhmgaaDoor
