/- The document's block: the eight words behind one block. -/
import Derived.Test.YtkagmoaapampgaaDoorRef2S
namespace Go.Proofs.YtkagmoaapampgaaDoor
open Go.RowKit Go.Lib Go.Joins Base
set_option linter.unusedVariables false
set_option linter.unusedSimpArgs false

/-- Words, and zeros up to 68. -/
def pad68 (l : List UInt32) : List UInt32 := l ++ List.replicate (68 - l.length) 0
theorem pad68_len (l : List UInt32) (h : l.length ≤ 68) : (pad68 l).length = 68 := by simp [pad68]; omega
theorem pad68_set (l : List UInt32) (x : UInt32) (h : l.length < 68) : (pad68 l).set l.length x = pad68 (l ++ [x]) := by
  unfold pad68
  rw [List.set_append_right _ _ (Nat.le_refl _), Nat.sub_self, show 68 - l.length = (68 - (l ++ [x]).length) + 1 by simp; omega]
  simp [List.replicate_succ]
theorem pad68_get (l : List UInt32) (i : Nat) (h : i < l.length) : (pad68 l).getD i 0 = l.getD i 0 := by
  simp [pad68, List.getD, List.getElem?_append_left h]
section
variable (t : TypeId) (a b c d e : UInt32)
theorem addI5 : binOp .add t (.int .i64 (wd a + wd b + wd c + wd d)) (.int .i64 (wd e)) = pure (.int .i64 (wd a + wd b + wd c + wd d + wd e)) := by
  have := wd_lt a; have := wd_lt b; have := wd_lt c; have := wd_lt d; have := wd_lt e
  rw [binOp_add]; show pure (Value.int .i64 (IntKind.i64.wrap _)) = _; rw [IntWalk.i64_in _ (by omega)]
theorem notI : binOp .sub t (.int .i64 4294967295) (.int .i64 (wd a)) = pure (.int .i64 (wd (~~~a))) := by
  have h := wd_lt a
  have e1 : (4294967295 : Int) - wd a = wd (~~~a) := by
    unfold wd; rw [UInt32.toNat_not]
    have := a.toNat_lt
    show (4294967295 : Int) - a.toNat = ((4294967296 - 1 - a.toNat : Nat) : Int)
    omega
  rw [binOp_sub]; show pure (Value.int .i64 (IntKind.i64.wrap _)) = _; rw [IntWalk.i64_in _ (by omega), e1]
/-- The two sums that end a step. -/
theorem endE (f : UInt32) (T : Int) (hT : T = wd a + wd b + wd c + wd d + wd e) : binOp .add t (.int .i64 (wd f)) (.int .i64 T) = pure (.int .i64 (wd f + T)) ∧ binOp .rem t (.int .i64 (wd f + T)) (.int .i64 4294967296) = pure (.int .i64 (wd (f + (a + b + c + d + e)))) := by
  have h1 := wd_lt a; have h2 := wd_lt b; have h3 := wd_lt c; have h4 := wd_lt d; have h5 := wd_lt e; have h6 := wd_lt f
  constructor
  · rw [binOp_add]; show pure (Value.int .i64 (IntKind.i64.wrap _)) = _; rw [IntWalk.i64_in _ (by omega)]
  · have e1 : (wd f + T) % 4294967296 = wd (f + (a + b + c + d + e)) := by
      rw [hT]; unfold wd; simp only [UInt32.toNat_add]; omega
    rw [← e1]
    simp [binOp, Op.intDiv]
    rw [Int.tmod_eq_emod_of_nonneg (by omega)]
theorem endA (f g : UInt32) (T : Int) (hT : T = wd a + wd b + wd c + wd d + wd e) : binOp .add t (.int .i64 T) (.int .i64 (wd f)) = pure (.int .i64 (T + wd f)) ∧ binOp .add t (.int .i64 (T + wd f)) (.int .i64 (wd g)) = pure (.int .i64 (T + wd f + wd g)) ∧ binOp .rem t (.int .i64 (T + wd f + wd g)) (.int .i64 4294967296) = pure (.int .i64 (wd ((a + b + c + d + e) + (f + g)))) := by
  have h1 := wd_lt a; have h2 := wd_lt b; have h3 := wd_lt c; have h4 := wd_lt d; have h5 := wd_lt e; have h6 := wd_lt f; have h7 := wd_lt g
  refine ⟨?_, ?_, ?_⟩
  · rw [binOp_add]; show pure (Value.int .i64 (IntKind.i64.wrap _)) = _; rw [IntWalk.i64_in _ (by omega)]
  · rw [binOp_add]; show pure (Value.int .i64 (IntKind.i64.wrap _)) = _; rw [IntWalk.i64_in _ (by omega)]
  · have e1 : (T + wd f + wd g) % 4294967296 = wd ((a + b + c + d + e) + (f + g)) := by
      rw [hT]; unfold wd; simp only [UInt32.toNat_add]; omega
    rw [← e1]
    simp [binOp, Op.intDiv]
    rw [Int.tmod_eq_emod_of_nonneg (by omega)]
end
theorem rowA_at (H W : List UInt32) (i : Nat) (hi : i < 4) : (rowA H W 0)[i]? = some (H.getD (3 - i) 0) := by
  match i, hi with
  | 0, _ => rfl
  | 1, _ => rfl
  | 2, _ => rfl
  | 3, _ => rfl
theorem rowE_at (H W : List UInt32) (i : Nat) (hi : i < 4) : (rowE H W 0)[i]? = some (H.getD (7 - i) 0) := by
  match i, hi with
  | 0, _ => rfl
  | 1, _ => rfl
  | 2, _ => rfl
  | 3, _ => rfl

/-- The answer, filled from both ends. -/
def outP (H A E : List UInt32) (i : Nat) : List UInt32 := ((List.zipWith (· + ·) (H.take 4) A).take i ++ List.replicate (4 - i) 0) ++ ((List.zipWith (· + ·) (H.drop 4) E).take i ++ List.replicate (4 - i) 0)
theorem outP_all (h0 h1 h2 h3 h4 h5 h6 h7 a b c d e f g h : UInt32) : ∀ i, i < 4 → ((outP [h0, h1, h2, h3, h4, h5, h6, h7] [a, b, c, d] [e, f, g, h] i).set i ([h0, h1, h2, h3, h4, h5, h6, h7].getD i 0 + [a, b, c, d].getD i 0)).set (4 + i) ([h0, h1, h2, h3, h4, h5, h6, h7].getD (4 + i) 0 + [e, f, g, h].getD i 0) = outP [h0, h1, h2, h3, h4, h5, h6, h7] [a, b, c, d] [e, f, g, h] (i + 1)
  | 0, _ => rfl
  | 1, _ => rfl
  | 2, _ => rfl
  | 3, _ => rfl
  | n + 4, h => by omega
theorem outP_set (H : List UInt32) (hH : H.length = 8) (a b c d e f g h : UInt32) (i : Nat) (hi : i < 4) : ((outP H [a, b, c, d] [e, f, g, h] i).set i (H.getD i 0 + [a, b, c, d].getD i 0)).set (4 + i) (H.getD (4 + i) 0 + [e, f, g, h].getD i 0) = outP H [a, b, c, d] [e, f, g, h] (i + 1) := by
  match H, hH with
  | [h0, h1, h2, h3, h4, h5, h6, h7], _ => exact outP_all h0 h1 h2 h3 h4 h5 h6 h7 a b c d e f g h i hi
theorem outP_end (H : List UInt32) (hH : H.length = 8) (a b c d e f g h : UInt32) : outP H [a, b, c, d] [e, f, g, h] 4 = List.zipWith (· + ·) H (St.list ⟨a, b, c, d, e, f, g, h⟩) := by
  match H, hH with
  | [h0, h1, h2, h3, h4, h5, h6, h7], _ => rfl
theorem outP_len (H : List UInt32) (hH : H.length = 8) (a b c d e f g h : UInt32) : ∀ i, i ≤ 4 → (outP H [a, b, c, d] [e, f, g, h] i).length = 8 := by
  intro i hi
  simp [outP, hH]; omega
set_option maxRecDepth 100000 in
set_option maxHeartbeats 2000000 in
theorem refblock_any (H : List UInt32) (hH : H.length = 8) (s : ByteArray) (at0 : Nat) (hs : at0 + 64 ≤ s.size) (hs63 : s.size ≤ 4611686018427387904) (w : World) (hP : Powers w) (hQ : RefRoots w) :
    Calls Tryd.prog 44 #[.agg (icells H).toArray, .string s, .int .i64 at0] w fun e w' => e = .returned (.agg (icells (mixL H (wordsB ((s.data.toList.drop at0).take 64)))).toArray) ∧ Fr [] w w' := by
  obtain ⟨M, hM⟩ : ∃ M, M = wordsB ((s.data.toList.drop at0).take 64) := ⟨_, rfl⟩
  have hML : M.length = 16 := by rw [hM]; exact wordsB_len 16 _ (by simp; omega)
  have cS : ∀ w, Powers w → Calls Tryd.prog 48 #[.string s, .int .i64 at0] w fun e w' => e = .returned (.agg (icells (sch M 48)).toArray) ∧ Fr [] w w' := fun w h => by rw [hM]; exact schedule_any s at0 hs hs63 w h
  obtain ⟨W, hW⟩ : ∃ W, W = sch M 48 := ⟨_, rfl⟩
  have hWl : W.length = 64 := by rw [hW]; exact sch_len M hML 48
  rw [← hW] at cS
  have hans : mixL H M = List.zipWith (· + ·) H (steps H W 64).list := by rw [hW]; rfl
  rw [← hM, hans]
  have hsz87 : (Tryd.prog.info? 87).map (·.size) = some (icells W).toArray.size := by rw [List.size_toArray, icells_len, hWl]; kernel_rfl
  have hold87 : (icells (padW [])).toArray.size = (icells W).toArray.size := by rw [List.size_toArray, List.size_toArray, icells_len, icells_len, hWl]; rfl
  have hF := Fr.refl [] w
  have A3 := At.alloc_new w 58 (icells H).toArray
  rw [List.toList_toArray] at A3
  have hz89 : ∀ w, (zeroValue 89).run Tryd.prog w = .ok (.agg (icells (pad68 [])).toArray) w := fun w => by kernel_rfl
  have hz87 : ∀ w, (zeroValue 87).run Tryd.prog w = .ok (.agg (icells (padW [])).toArray) w := fun w => by kernel_rfl
  have HM := Lib.hid (And.intro hM (And.intro hW hans))
  clear hM hW hans hML hs hs63
  go_enter Tryd.func44, Tryd.ntmps44
  go_wp2_with (first
    | (go_at_call 48; refine (cS _ (hP.keep (hF.trans ((Fr.alloc _ _ _).trans (Fr.alloc _ _ _))))).mono ?_; rintro e w1 ⟨rfl, f1⟩; have hF := hF.trans (((Fr.alloc _ _ _).trans (Fr.alloc _ _ _)).trans f1))
    | refine wpList_store_row rfl _ _ _ rfl _ _ rfl rfl _ _ (heap_alloc_new _ _) hsz87 hold87 (icells_one _) ?_
    | fail)
  have A6 := At.alloc_new (w.alloc (.cells (icells H).toArray 58)) 58 #[Value.int .i64 0, Value.int .i64 0, Value.int .i64 0, Value.int .i64 0, Value.int .i64 0, Value.int .i64 0, Value.int .i64 0, Value.int .i64 0]
  have e6 : (w.alloc (.cells (icells H).toArray 58)).heap.size = w.heap.size + 1 := by simp
  rw [e6] at A6
  have B6 := f1.keep A6 (by simp)
  have B3 := f1.keep (A3.alloc _) (by simp)
  have hl6 := B6.lt
  obtain ⟨q, hq⟩ : ∃ q, q = w1.heap.size := ⟨_, rfl⟩
  obtain ⟨w2, hw2⟩ : ∃ w2, w2 = (((w1.alloc (.cells (icells (padW [])).toArray 87)).setRow w1.heap.size (icells W).toArray).alloc (.cells (icells (pad68 [])).toArray 89)).alloc (.cells (icells (pad68 [])).toArray 89) := ⟨_, rfl⟩
  have C7 : At w2 q 87 (icells W) := by
    rw [hw2, hq]
    exact (((At.alloc_new w1 87 (icells (padW [])).toArray).setRow (icells W).toArray).alloc _).alloc _
  have C8 : At w2 (q + 1) 89 (icells (pad68 [])) := by
    have := (At.alloc_new ((w1.alloc (.cells (icells (padW [])).toArray 87)).setRow w1.heap.size (icells W).toArray) 89 (icells (pad68 [])).toArray).alloc (.cells (icells (pad68 [])).toArray 89)
    rw [hw2, hq]; simpa using this
  have C9 : At w2 (q + 1 + 1) 89 (icells (pad68 [])) := by
    have := At.alloc_new (((w1.alloc (.cells (icells (padW [])).toArray 87)).setRow w1.heap.size (icells W).toArray).alloc (.cells (icells (pad68 [])).toArray 89)) 89 (icells (pad68 [])).toArray
    rw [hw2, hq]; simpa using this
  have C3 : At w2 w.heap.size 58 (icells H) := by
    rw [hw2]; exact (((B3.alloc _).setRow_other (by omega) _).alloc _).alloc _
  have C6 : At w2 (w.heap.size + 1) 58 [Value.int .i64 0, Value.int .i64 0, Value.int .i64 0, Value.int .i64 0, Value.int .i64 0, Value.int .i64 0, Value.int .i64 0, Value.int .i64 0] := by
    rw [hw2]; exact (((B6.alloc _).setRow_other (by omega) _).alloc _).alloc _
  have F2 : Fr [] w w2 := by
    rw [hw2]
    exact hF.new (S := [w1.heap.size]) ((((Fr.alloc _ _ _).trans (Fr.setRow _ _ _ _ (.inl (by simp)))).trans (Fr.alloc _ _ _)).trans (Fr.alloc _ _ _)) (by simp; omega)
  rw [← hw2, ← hq]
  have hqw : w.heap.size + 2 ≤ q := by omega
  clear hw2 hq A3 A6 e6 B6 B3 hl6 hF f1 cS hz89 hz87 hsz87 hold87
  go_loopw [10] (fun v wr => ∃ i : Nat, i ≤ 4 ∧ v = .int .i64 i ∧ At wr q 87 (icells W) ∧ At wr (q + 1) 89 (icells (pad68 ((rowA H W 0).take i))) ∧ At wr (q + 1 + 1) 89 (icells (pad68 ((rowE H W 0).take i))) ∧ At wr w.heap.size 58 (icells H) ∧ At wr (w.heap.size + 1) 58 [Value.int .i64 0, Value.int .i64 0, Value.int .i64 0, Value.int .i64 0, Value.int .i64 0, Value.int .i64 0, Value.int .i64 0, Value.int .i64 0] ∧ Fr [] w wr) (fun v _ => 4 - (intOf v).toNat)
  case atStart => exact ⟨0, by omega, rfl, C7, C8, C9, C3, C6, F2⟩
  case round =>
    clear C7 C8 C9 C3 C6 F2
    obtain ⟨i, hi, rfl, C7, C8, C9, C3, C6, hF⟩ := hrel
    have lA : (rowA H W 0).length = 4 := rfl
    have lE : (rowE H W 0).length = 4 := rfl
    by_cases hl : i < 4
    · have l1 : (i : Int) < 4 := by omega
      have l2 : (i : Int) < 68 := by omega
      have w3 : IntKind.i64.wrap (3 - (i : Int)) = ((3 - i : Nat) : Int) := by rw [IntWalk.i64_in _ (by omega)]; omega
      have w7 : IntKind.i64.wrap (7 - (i : Int)) = ((7 - i : Nat) : Int) := by rw [IntWalk.i64_in _ (by omega)]; omega
      have q3 : ((3 - i : Nat) : Int) < 8 := by omega
      have q7 : ((7 - i : Nat) : Int) < 8 := by omega
      have c3 := C3.cell (3 - i)
      have c7 := C3.cell (7 - i)
      rw [icells_get _ _ (by omega)] at c3 c7
      have ka : ((rowA H W 0).take i).length = i := by simp; omega
      have ke : ((rowE H W 0).take i).length = i := by simp; omega
      have cA := C8.cell i
      have cE := C9.cell i
      rw [icells_get _ _ (by rw [pad68_len _ (by omega)]; omega)] at cA cE
      have fA := C8.frozen i
      have fE := C9.frozen i
      generalize (pad68 ((rowA H W 0).take i)).getD i 0 = oldA at cA
      generalize (pad68 ((rowE H W 0).take i)).getD i 0 = oldE at cE
      have sA := pad68_set ((rowA H W 0).take i) (H.getD (3 - i) 0) (by omega)
      have sE := pad68_set ((rowE H W 0).take i) (H.getD (7 - i) 0) (by omega)
      have tA : (rowA H W 0).take (i + 1) = (rowA H W 0).take i ++ [H.getD (3 - i) 0] := by rw [List.take_add_one, rowA_at H W i hl]; rfl
      have tE : (rowE H W 0).take (i + 1) = (rowE H W 0).take i ++ [H.getD (7 - i) 0] := by rw [List.take_add_one, rowE_at H W i hl]; rfl
      rw [ka, ← tA] at sA
      rw [ke, ← tE] at sE
      generalize H.getD (3 - i) 0 = x at c3 sA
      generalize H.getD (7 - i) 0 = y at c7 sE
      have HS := Lib.hid (And.intro sA sE)
      generalize hn3 : 3 - i = n3 at c3 w3 q3
      generalize hn7 : 7 - i = n7 at c7 w7 q7
      clear sA sE tA tE ka ke lA lE hn3 hn7
      go_wp2_with fail
      refine ⟨⟨i + 1, by omega, by simp, ?_, ?_, ?_, ?_, ?_, ?_⟩, by simp only [intOf]; omega⟩
      · exact (C7.setCell_other (by show q ≠ q + 1; omega) _).setCell_other (by show q ≠ q + 1 + 1; omega) _
      · rw [← HS.out.1, ← icells_set]; exact (C8.setCell i _).setCell_other (by show q + 1 ≠ q + 1 + 1; omega) _
      · rw [← HS.out.2, ← icells_set]; exact (C9.setCell_other (by show q + 1 + 1 ≠ q + 1; omega) _).setCell i _
      · exact (C3.setCell_other (by show w.heap.size ≠ q + 1; omega) _).setCell_other (by show w.heap.size ≠ q + 1 + 1; omega) _
      · exact (C6.setCell_other (by show w.heap.size + 1 ≠ q + 1; omega) _).setCell_other (by show w.heap.size + 1 ≠ q + 1 + 1; omega) _
      · exact hF.new (S := [q + 1, q + 1 + 1]) ((Fr.setCell [q + 1, q + 1 + 1] wr ⟨q + 1, i, none⟩ _ (.inl (by simp))).trans (Fr.setCell [q + 1, q + 1 + 1] _ ⟨q + 1 + 1, i, none⟩ _ (.inl (by simp)))) (by simp; omega)
    · obtain rfl : i = 4 := by omega
      rw [List.take_of_length_le (by omega)] at C8 C9
      go_wp2_with fail
      rw [show ((4 : Nat) : Int) = 4 from rfl]
      go_loopw [11] (fun v wr' => ∃ n : Nat, n ≤ 64 ∧ v = .int .i64 n ∧ At wr' q 87 (icells W) ∧ At wr' (q + 1) 89 (icells (pad68 (rowA H W n))) ∧ At wr' (q + 1 + 1) 89 (icells (pad68 (rowE H W n))) ∧ At wr' w.heap.size 58 (icells H) ∧ At wr' (w.heap.size + 1) 58 [Value.int .i64 0, Value.int .i64 0, Value.int .i64 0, Value.int .i64 0, Value.int .i64 0, Value.int .i64 0, Value.int .i64 0, Value.int .i64 0] ∧ Fr [] w wr') (fun v _ => 64 - (intOf v).toNat)
      case atStart => exact ⟨0, by omega, rfl, C7, C8, C9, C3, C6, hF⟩
      case round =>
        clear C7 C8 C9 C3 C6 hF
        obtain ⟨n, hn, rfl, C7, C8, C9, C3, C6, hF⟩ := hrel
        have lA := rowA_len H W n
        have lE := rowE_len H W n
        by_cases hl : n < 64
        · obtain ⟨⟨ra, rb, rc, rd⟩, ⟨re, rf, rg, rh⟩⟩ := rows_say H W n
          have eA : rowA H W (n + 1) = rowA H W n ++ [((steps H W n).step (rootsL.getD n 0) (W.getD n 0)).a] := rfl
          have eE : rowE H W (n + 1) = rowE H W n ++ [((steps H W n).step (rootsL.getD n 0) (W.getD n 0)).e] := rfl
          obtain ⟨⟨a, b, c, d, e, f, g, h⟩, hst⟩ : ∃ st, st = steps H W n := ⟨_, rfl⟩
          rw [← hst] at ra rb rc rd re rf rg rh eA eE
          dsimp only at ra rb rc rd re rf rg rh
          have cA : ∀ w', At w' (q + 1) 89 (icells (pad68 (rowA H W n))) → w'.cell? ⟨q + 1, n + 3, none⟩ = some (.int .i64 (wd a)) ∧ w'.cell? ⟨q + 1, n + 2, none⟩ = some (.int .i64 (wd b)) ∧ w'.cell? ⟨q + 1, n + 1, none⟩ = some (.int .i64 (wd c)) ∧ w'.cell? ⟨q + 1, n, none⟩ = some (.int .i64 (wd d)) ∧ w'.cell? ⟨q + 1, n + 4, none⟩ = some (.int .i64 (wd ((pad68 (rowA H W n)).getD (n + 4) 0))) ∧ w'.frozen? ⟨q + 1, n + 4, none⟩ = false := by
            intro w' hh
            have hp := pad68_len (rowA H W n) (by omega)
            refine ⟨?_, ?_, ?_, ?_, ?_, hh.frozen _⟩
            · rw [hh.cell, icells_get _ _ (by omega), pad68_get _ _ (by omega), ← ra]
            · rw [hh.cell, icells_get _ _ (by omega), pad68_get _ _ (by omega), ← rb]
            · rw [hh.cell, icells_get _ _ (by omega), pad68_get _ _ (by omega), ← rc]
            · rw [hh.cell, icells_get _ _ (by omega), pad68_get _ _ (by omega), ← rd]
            · rw [hh.cell, icells_get _ _ (by omega)]
          have cE : ∀ w', At w' (q + 1 + 1) 89 (icells (pad68 (rowE H W n))) → w'.cell? ⟨q + 1 + 1, n + 3, none⟩ = some (.int .i64 (wd e)) ∧ w'.cell? ⟨q + 1 + 1, n + 2, none⟩ = some (.int .i64 (wd f)) ∧ w'.cell? ⟨q + 1 + 1, n + 1, none⟩ = some (.int .i64 (wd g)) ∧ w'.cell? ⟨q + 1 + 1, n, none⟩ = some (.int .i64 (wd h)) ∧ w'.cell? ⟨q + 1 + 1, n + 4, none⟩ = some (.int .i64 (wd ((pad68 (rowE H W n)).getD (n + 4) 0))) ∧ w'.frozen? ⟨q + 1 + 1, n + 4, none⟩ = false := by
            intro w' hh
            have hp := pad68_len (rowE H W n) (by omega)
            refine ⟨?_, ?_, ?_, ?_, ?_, hh.frozen _⟩
            · rw [hh.cell, icells_get _ _ (by omega), pad68_get _ _ (by omega), ← re]
            · rw [hh.cell, icells_get _ _ (by omega), pad68_get _ _ (by omega), ← rf]
            · rw [hh.cell, icells_get _ _ (by omega), pad68_get _ _ (by omega), ← rg]
            · rw [hh.cell, icells_get _ _ (by omega), pad68_get _ _ (by omega), ← rh]
            · rw [hh.cell, icells_get _ _ (by omega)]
          have cW : ∀ w', At w' q 87 (icells W) → w'.cell? ⟨q, n, none⟩ = some (.int .i64 (wd (W.getD n 0))) := by
            intro w' hh
            rw [hh.cell, icells_get _ _ (by omega)]
          have cR : ∀ w', Fr [] w w' → w'.cell? ⟨2, n, none⟩ = some (.int .i64 (wd (rootsL.getD n 0))) := fun w' ff => (hQ.keep ff).at hl
          have sA := pad68_set (rowA H W n) (((⟨a, b, c, d, e, f, g, h⟩ : St).step (rootsL.getD n 0) (W.getD n 0)).a) (by omega)
          have sE := pad68_set (rowE H W n) (((⟨a, b, c, d, e, f, g, h⟩ : St).step (rootsL.getD n 0) (W.getD n 0)).e) (by omega)
          rw [lA, ← eA] at sA
          rw [lE, ← eE] at sE
          generalize (pad68 (rowA H W n)).getD (n + 4) 0 = oldA at cA
          generalize (pad68 (rowE H W n)).getD (n + 4) 0 = oldE at cE
          generalize W.getD n 0 = wn at cW sA sE
          generalize rootsL.getD n 0 = kn at cR sA sE
          have HS := Lib.hid (And.intro sA sE)
          have l1 : (n : Int) < 64 := by omega
          have l2 : (n : Int) < 68 := by omega
          have v1 : IntKind.i64.wrap ((n : Int) + 1) = (n : Int) + 1 := IntWalk.i64_in _ (by omega)
          have v2 : IntKind.i64.wrap ((n : Int) + 2) = (n : Int) + 2 := IntWalk.i64_in _ (by omega)
          have v3 : IntKind.i64.wrap ((n : Int) + 3) = (n : Int) + 3 := IntWalk.i64_in _ (by omega)
          have v4 : IntKind.i64.wrap ((n : Int) + 4) = (n : Int) + 4 := IntWalk.i64_in _ (by omega)
          have p1 : (0 : Int) ≤ (n : Int) + 1 := by omega
          have p2 : (0 : Int) ≤ (n : Int) + 2 := by omega
          have p3 : (0 : Int) ≤ (n : Int) + 3 := by omega
          have p4 : (0 : Int) ≤ (n : Int) + 4 := by omega
          have q1 : (n : Int) + 1 < 68 := by omega
          have q2 : (n : Int) + 2 < 68 := by omega
          have q3 : (n : Int) + 3 < 68 := by omega
          have q4 : (n : Int) + 4 < 68 := by omega
          have t1 : ((n : Int) + 1).toNat = n + 1 := by omega
          have t2 : ((n : Int) + 2).toNat = n + 2 := by omega
          have t3 : ((n : Int) + 3).toNat = n + 3 := by omega
          have t4 : ((n : Int) + 4).toNat = n + 4 := by omega
          clear ra rb rc rd re rf rg rh eA eE hst sA sE lA lE
          have ce := (cE _ C9).1
          go_wp2_with (first
            | (go_at_call 49; refine (rbig1_any e _ (hP.keep hF)).mono ?_; rintro _ w3 ⟨rfl, f3⟩; have C7 := f3.keep C7 (by simp); have C8 := f3.keep C8 (by simp); have C9 := f3.keep C9 (by simp); have C3 := f3.keep C3 (by simp); have C6 := f3.keep C6 (by simp); have hF := hF.trans f3; have ca := (cA _ C8).1)
            | (go_at_call 50; refine (rbig0_any a _ (hP.keep hF)).mono ?_; rintro _ w4 ⟨rfl, f4⟩; have C7 := f4.keep C7 (by simp); have C8 := f4.keep C8 (by simp); have C9 := f4.keep C9 (by simp); have C3 := f4.keep C3 (by simp); have C6 := f4.keep C6 (by simp); have hF := hF.trans f4)
            | fail)
          refine wp_region_until (fun w' => w'.cell? ⟨q + 1 + 1, n + 3, none⟩ = some (.int .i64 (wd e)) ∧ w'.cell? ⟨q + 1 + 1, n + 2, none⟩ = some (.int .i64 (wd f)) ∧ w'.cell? ⟨q + 1 + 1, n + 1, none⟩ = some (.int .i64 (wd g))) (fun _ => True) 1000 (by rfl) ?_
          have hT1 : True := trivial
          have s0 : _ ∧ _ ∧ _ := ⟨(cE _ C9.drew).1, (cE _ C9.drew).2.1, (cE _ C9.drew).2.2.1⟩
          have nE := fun t => notI t e
          refine until_s0 0 (v := ?_) rfl (by kernel_rfl) (fun _ _ _ h => h) (Or.inl ⟨by rfl, ?_⟩) (by assumption) (fun h => by first | assumption | exact absurd (h : true = false) (by decide)) ?_
          rotate_left
          · intro w hSw; (try dsimp only at hSw); (try go_simp); (try with_reducible rfl)
          try simp only [Act.put, List.setIfInBounds_toArray, List.set_cons_zero, List.set_cons_succ]
          refine until_s0 1 (v := ?_) rfl (by kernel_rfl) (fun _ _ _ h => h) (Or.inl ⟨by rfl, ?_⟩) (by assumption) (fun h => by first | assumption | exact absurd (h : true = false) (by decide)) ?_
          rotate_left
          · intro w hSw; (try dsimp only at hSw); (try go_simp); (try with_reducible rfl)
          try simp only [Act.put, List.setIfInBounds_toArray, List.set_cons_zero, List.set_cons_succ]
          refine until_s0 2 (v := ?_) rfl (by kernel_rfl) (fun _ _ _ h => h) (Or.inl ⟨by rfl, ?_⟩) (by assumption) (fun h => by first | assumption | exact absurd (h : true = false) (by decide)) ?_
          rotate_left
          · intro w hSw; (try dsimp only at hSw); (try go_simp); (try with_reducible rfl)
          try simp only [Act.put, List.setIfInBounds_toArray, List.set_cons_zero, List.set_cons_succ]
          refine until_s0 3 (v := ?_) rfl (by kernel_rfl) (fun _ _ _ h => h) (Or.inl ⟨by rfl, ?_⟩) (by assumption) (fun h => by first | assumption | exact absurd (h : true = false) (by decide)) ?_
          rotate_left
          · intro w hSw; (try dsimp only at hSw); (try go_simp); (try with_reducible rfl)
          try simp only [Act.put, List.setIfInBounds_toArray, List.set_cons_zero, List.set_cons_succ]
          refine until_s0 4 (v := ?_) rfl (by kernel_rfl) (fun _ _ _ h => h) (Or.inl ⟨by rfl, ?_⟩) (by assumption) (fun h => by first | assumption | exact absurd (h : true = false) (by decide)) ?_
          rotate_left
          · intro w hSw; (try dsimp only at hSw); (try go_simp); (try with_reducible rfl)
          try simp only [Act.put, List.setIfInBounds_toArray, List.set_cons_zero, List.set_cons_succ]
          refine until_s0 5 (v := ?_) rfl (by kernel_rfl) (fun _ _ _ h => h) (Or.inl ⟨by rfl, ?_⟩) (by assumption) (fun h => by first | assumption | exact absurd (h : true = false) (by decide)) ?_
          rotate_left
          · intro w hSw; (try dsimp only at hSw); (try go_simp); (try with_reducible rfl)
          try simp only [Act.put, List.setIfInBounds_toArray, List.set_cons_zero, List.set_cons_succ]
          refine until_s0 6 (v := ?_) rfl (by kernel_rfl) (fun _ _ _ h => h) (Or.inl ⟨by rfl, ?_⟩) (by assumption) (fun h => by first | assumption | exact absurd (h : true = false) (by decide)) ?_
          rotate_left
          · intro w hSw; (try dsimp only at hSw); (try go_simp); (try with_reducible rfl)
          try simp only [Act.put, List.setIfInBounds_toArray, List.set_cons_zero, List.set_cons_succ]
          refine until_s0 7 (v := ?_) rfl (by kernel_rfl) (fun _ _ _ h => h) (Or.inl ⟨by rfl, ?_⟩) (by assumption) (fun h => by first | assumption | exact absurd (h : true = false) (by decide)) ?_
          rotate_left
          · intro w hSw; (try dsimp only at hSw); (try go_simp); (try with_reducible rfl)
          try simp only [Act.put, List.setIfInBounds_toArray, List.set_cons_zero, List.set_cons_succ]
          refine until_s0 8 (v := ?_) rfl (by kernel_rfl) (fun _ _ _ h => h) (Or.inl ⟨by rfl, ?_⟩) (by assumption) (fun h => by first | assumption | exact absurd (h : true = false) (by decide)) ?_
          rotate_left
          · intro w hSw; (try dsimp only at hSw); (try go_simp); (try with_reducible rfl)
          try simp only [Act.put, List.setIfInBounds_toArray, List.set_cons_zero, List.set_cons_succ]
          refine until_s0 9 (v := ?_) rfl (by kernel_rfl) (fun _ _ _ h => h) (Or.inl ⟨by rfl, ?_⟩) (by assumption) (fun h => by first | assumption | exact absurd (h : true = false) (by decide)) ?_
          rotate_left
          · intro w hSw; (try dsimp only at hSw); (try go_simp); (try with_reducible rfl)
          try simp only [Act.put, List.setIfInBounds_toArray, List.set_cons_zero, List.set_cons_succ]
          refine until_s0 10 (v := ?_) rfl (by kernel_rfl) (fun _ _ _ h => h) (Or.inl ⟨by rfl, ?_⟩) (by assumption) (fun h => by first | assumption | exact absurd (h : true = false) (by decide)) ?_
          rotate_left
          · intro w hSw; (try dsimp only at hSw); (try go_simp); (try with_reducible rfl)
          try simp only [Act.put, List.setIfInBounds_toArray, List.set_cons_zero, List.set_cons_succ]
          refine until_s0 11 (v := ?_) rfl (by kernel_rfl) (fun _ _ _ h => h) (Or.inl ⟨by rfl, ?_⟩) (by assumption) (fun h => by first | assumption | exact absurd (h : true = false) (by decide)) ?_
          rotate_left
          · intro w hSw; (try dsimp only at hSw); (try go_simp); (try with_reducible rfl)
          try simp only [Act.put, List.setIfInBounds_toArray, List.set_cons_zero, List.set_cons_succ]
          refine until_s0 12 (v := ?_) rfl (by kernel_rfl) (fun _ _ _ h => h) (Or.inl ⟨by rfl, ?_⟩) (by assumption) (fun h => by first | assumption | exact absurd (h : true = false) (by decide)) ?_
          rotate_left
          · intro w hSw; (try dsimp only at hSw); (try go_simp); (try with_reducible rfl)
          try simp only [Act.put, List.setIfInBounds_toArray, List.set_cons_zero, List.set_cons_succ]
          refine until_s0 13 (v := ?_) rfl (by kernel_rfl) (fun _ _ _ h => h) (Or.inl ⟨by rfl, ?_⟩) (by assumption) (fun h => by first | assumption | exact absurd (h : true = false) (by decide)) ?_
          rotate_left
          · intro w hSw; (try dsimp only at hSw); (try go_simp); (try with_reducible rfl)
          try simp only [Act.put, List.setIfInBounds_toArray, List.set_cons_zero, List.set_cons_succ]
          refine until_s0 14 (v := ?_) rfl (by kernel_rfl) (fun _ _ _ h => h) (Or.inl ⟨by rfl, ?_⟩) (by assumption) (fun h => by first | assumption | exact absurd (h : true = false) (by decide)) ?_
          rotate_left
          · intro w hSw; (try dsimp only at hSw); (try go_simp); (try with_reducible rfl)
          try simp only [Act.put, List.setIfInBounds_toArray, List.set_cons_zero, List.set_cons_succ]
          refine until_s0 15 (v := ?_) rfl (by kernel_rfl) (fun _ _ _ h => h) (Or.inl ⟨by rfl, ?_⟩) (by assumption) (fun h => by first | assumption | exact absurd (h : true = false) (by decide)) ?_
          rotate_left
          · intro w hSw; (try dsimp only at hSw); (try go_simp); (try with_reducible rfl)
          try simp only [Act.put, List.setIfInBounds_toArray, List.set_cons_zero, List.set_cons_succ]
          refine until_s0 16 (v := ?_) rfl (by kernel_rfl) (fun _ _ _ h => h) (Or.inl ⟨by rfl, ?_⟩) (by assumption) (fun h => by first | assumption | exact absurd (h : true = false) (by decide)) ?_
          rotate_left
          · intro w hSw; (try dsimp only at hSw); (try go_simp); (try with_reducible rfl)
          try simp only [Act.put, List.setIfInBounds_toArray, List.set_cons_zero, List.set_cons_succ]
          refine until_s0 17 (v := ?_) rfl (by kernel_rfl) (fun _ _ _ h => h) (Or.inl ⟨by rfl, ?_⟩) (by assumption) (fun h => by first | assumption | exact absurd (h : true = false) (by decide)) ?_
          rotate_left
          · intro w hSw; (try dsimp only at hSw); (try go_simp); (try with_reducible rfl)
          try simp only [Act.put, List.setIfInBounds_toArray, List.set_cons_zero, List.set_cons_succ]
          refine until_s0 18 (v := ?_) rfl (by kernel_rfl) (fun _ _ _ h => h) (Or.inl ⟨by rfl, ?_⟩) (by assumption) (fun h => by first | assumption | exact absurd (h : true = false) (by decide)) ?_
          rotate_left
          · intro w hSw; (try dsimp only at hSw); (try go_simp); (try with_reducible rfl)
          try simp only [Act.put, List.setIfInBounds_toArray, List.set_cons_zero, List.set_cons_succ]
          refine until_s0 19 (v := ?_) rfl (by kernel_rfl) (fun _ _ _ h => h) (Or.inl ⟨by rfl, ?_⟩) (by assumption) (fun h => by first | assumption | exact absurd (h : true = false) (by decide)) ?_
          rotate_left
          · intro w hSw; (try dsimp only at hSw); (try go_simp); (try with_reducible rfl)
          try simp only [Act.put, List.setIfInBounds_toArray, List.set_cons_zero, List.set_cons_succ]
          refine until_s0 20 (v := ?_) rfl (by kernel_rfl) (fun _ _ _ h => h) (Or.inl ⟨by rfl, ?_⟩) (by assumption) (fun h => by first | assumption | exact absurd (h : true = false) (by decide)) ?_
          rotate_left
          · intro w hSw; (try dsimp only at hSw); (try go_simp); (try with_reducible rfl)
          try simp only [Act.put, List.setIfInBounds_toArray, List.set_cons_zero, List.set_cons_succ]
          clear s0 nE
          refine until_done (by kernel_rfl) ?_ _
          go_wp2_with fail
          refine wp_region_until (fun w' => w'.cell? ⟨q + 1, n + 3, none⟩ = some (.int .i64 (wd a)) ∧ w'.cell? ⟨q + 1, n + 2, none⟩ = some (.int .i64 (wd b)) ∧ w'.cell? ⟨q + 1, n + 1, none⟩ = some (.int .i64 (wd c))) (fun _ => True) 1000 (by rfl) ?_
          have s0 : _ ∧ _ ∧ _ := ⟨(cA _ C8.drew.drew).1, (cA _ C8.drew.drew).2.1, (cA _ C8.drew.drew).2.2.1⟩
          refine until_s0 0 (v := ?_) rfl (by kernel_rfl) (fun _ _ _ h => h) (Or.inl ⟨by rfl, ?_⟩) (by assumption) (fun h => by first | assumption | exact absurd (h : true = false) (by decide)) ?_
          rotate_left
          · intro w hSw; (try dsimp only at hSw); (try go_simp); (try with_reducible rfl)
          try simp only [Act.put, List.setIfInBounds_toArray, List.set_cons_zero, List.set_cons_succ]
          refine until_s0 1 (v := ?_) rfl (by kernel_rfl) (fun _ _ _ h => h) (Or.inl ⟨by rfl, ?_⟩) (by assumption) (fun h => by first | assumption | exact absurd (h : true = false) (by decide)) ?_
          rotate_left
          · intro w hSw; (try dsimp only at hSw); (try go_simp); (try with_reducible rfl)
          try simp only [Act.put, List.setIfInBounds_toArray, List.set_cons_zero, List.set_cons_succ]
          refine until_s0 2 (v := ?_) rfl (by kernel_rfl) (fun _ _ _ h => h) (Or.inl ⟨by rfl, ?_⟩) (by assumption) (fun h => by first | assumption | exact absurd (h : true = false) (by decide)) ?_
          rotate_left
          · intro w hSw; (try dsimp only at hSw); (try go_simp); (try with_reducible rfl)
          try simp only [Act.put, List.setIfInBounds_toArray, List.set_cons_zero, List.set_cons_succ]
          refine until_s0 3 (v := ?_) rfl (by kernel_rfl) (fun _ _ _ h => h) (Or.inl ⟨by rfl, ?_⟩) (by assumption) (fun h => by first | assumption | exact absurd (h : true = false) (by decide)) ?_
          rotate_left
          · intro w hSw; (try dsimp only at hSw); (try go_simp); (try with_reducible rfl)
          try simp only [Act.put, List.setIfInBounds_toArray, List.set_cons_zero, List.set_cons_succ]
          refine until_s0 4 (v := ?_) rfl (by kernel_rfl) (fun _ _ _ h => h) (Or.inl ⟨by rfl, ?_⟩) (by assumption) (fun h => by first | assumption | exact absurd (h : true = false) (by decide)) ?_
          rotate_left
          · intro w hSw; (try dsimp only at hSw); (try go_simp); (try with_reducible rfl)
          try simp only [Act.put, List.setIfInBounds_toArray, List.set_cons_zero, List.set_cons_succ]
          refine until_s0 5 (v := ?_) rfl (by kernel_rfl) (fun _ _ _ h => h) (Or.inl ⟨by rfl, ?_⟩) (by assumption) (fun h => by first | assumption | exact absurd (h : true = false) (by decide)) ?_
          rotate_left
          · intro w hSw; (try dsimp only at hSw); (try go_simp); (try with_reducible rfl)
          try simp only [Act.put, List.setIfInBounds_toArray, List.set_cons_zero, List.set_cons_succ]
          refine until_s0 6 (v := ?_) rfl (by kernel_rfl) (fun _ _ _ h => h) (Or.inl ⟨by rfl, ?_⟩) (by assumption) (fun h => by first | assumption | exact absurd (h : true = false) (by decide)) ?_
          rotate_left
          · intro w hSw; (try dsimp only at hSw); (try go_simp); (try with_reducible rfl)
          try simp only [Act.put, List.setIfInBounds_toArray, List.set_cons_zero, List.set_cons_succ]
          refine until_s0 7 (v := ?_) rfl (by kernel_rfl) (fun _ _ _ h => h) (Or.inl ⟨by rfl, ?_⟩) (by assumption) (fun h => by first | assumption | exact absurd (h : true = false) (by decide)) ?_
          rotate_left
          · intro w hSw; (try dsimp only at hSw); (try go_simp); (try with_reducible rfl)
          try simp only [Act.put, List.setIfInBounds_toArray, List.set_cons_zero, List.set_cons_succ]
          refine until_s0 8 (v := ?_) rfl (by kernel_rfl) (fun _ _ _ h => h) (Or.inl ⟨by rfl, ?_⟩) (by assumption) (fun h => by first | assumption | exact absurd (h : true = false) (by decide)) ?_
          rotate_left
          · intro w hSw; (try dsimp only at hSw); (try go_simp); (try with_reducible rfl)
          try simp only [Act.put, List.setIfInBounds_toArray, List.set_cons_zero, List.set_cons_succ]
          refine until_s0 9 (v := ?_) rfl (by kernel_rfl) (fun _ _ _ h => h) (Or.inl ⟨by rfl, ?_⟩) (by assumption) (fun h => by first | assumption | exact absurd (h : true = false) (by decide)) ?_
          rotate_left
          · intro w hSw; (try dsimp only at hSw); (try go_simp); (try with_reducible rfl)
          try simp only [Act.put, List.setIfInBounds_toArray, List.set_cons_zero, List.set_cons_succ]
          refine until_s0 10 (v := ?_) rfl (by kernel_rfl) (fun _ _ _ h => h) (Or.inl ⟨by rfl, ?_⟩) (by assumption) (fun h => by first | assumption | exact absurd (h : true = false) (by decide)) ?_
          rotate_left
          · intro w hSw; (try dsimp only at hSw); (try go_simp); (try with_reducible rfl)
          try simp only [Act.put, List.setIfInBounds_toArray, List.set_cons_zero, List.set_cons_succ]
          refine until_s0 11 (v := ?_) rfl (by kernel_rfl) (fun _ _ _ h => h) (Or.inl ⟨by rfl, ?_⟩) (by assumption) (fun h => by first | assumption | exact absurd (h : true = false) (by decide)) ?_
          rotate_left
          · intro w hSw; (try dsimp only at hSw); (try go_simp); (try with_reducible rfl)
          try simp only [Act.put, List.setIfInBounds_toArray, List.set_cons_zero, List.set_cons_succ]
          refine until_s0 12 (v := ?_) rfl (by kernel_rfl) (fun _ _ _ h => h) (Or.inl ⟨by rfl, ?_⟩) (by assumption) (fun h => by first | assumption | exact absurd (h : true = false) (by decide)) ?_
          rotate_left
          · intro w hSw; (try dsimp only at hSw); (try go_simp); (try with_reducible rfl)
          try simp only [Act.put, List.setIfInBounds_toArray, List.set_cons_zero, List.set_cons_succ]
          refine until_s0 13 (v := ?_) rfl (by kernel_rfl) (fun _ _ _ h => h) (Or.inl ⟨by rfl, ?_⟩) (by assumption) (fun h => by first | assumption | exact absurd (h : true = false) (by decide)) ?_
          rotate_left
          · intro w hSw; (try dsimp only at hSw); (try go_simp); (try with_reducible rfl)
          try simp only [Act.put, List.setIfInBounds_toArray, List.set_cons_zero, List.set_cons_succ]
          refine until_s0 14 (v := ?_) rfl (by kernel_rfl) (fun _ _ _ h => h) (Or.inl ⟨by rfl, ?_⟩) (by assumption) (fun h => by first | assumption | exact absurd (h : true = false) (by decide)) ?_
          rotate_left
          · intro w hSw; (try dsimp only at hSw); (try go_simp); (try with_reducible rfl)
          try simp only [Act.put, List.setIfInBounds_toArray, List.set_cons_zero, List.set_cons_succ]
          refine until_s0 15 (v := ?_) rfl (by kernel_rfl) (fun _ _ _ h => h) (Or.inl ⟨by rfl, ?_⟩) (by assumption) (fun h => by first | assumption | exact absurd (h : true = false) (by decide)) ?_
          rotate_left
          · intro w hSw; (try dsimp only at hSw); (try go_simp); (try with_reducible rfl)
          try simp only [Act.put, List.setIfInBounds_toArray, List.set_cons_zero, List.set_cons_succ]
          refine until_s0 16 (v := ?_) rfl (by kernel_rfl) (fun _ _ _ h => h) (Or.inl ⟨by rfl, ?_⟩) (by assumption) (fun h => by first | assumption | exact absurd (h : true = false) (by decide)) ?_
          rotate_left
          · intro w hSw; (try dsimp only at hSw); (try go_simp); (try with_reducible rfl)
          try simp only [Act.put, List.setIfInBounds_toArray, List.set_cons_zero, List.set_cons_succ]
          refine until_s0 17 (v := ?_) rfl (by kernel_rfl) (fun _ _ _ h => h) (Or.inl ⟨by rfl, ?_⟩) (by assumption) (fun h => by first | assumption | exact absurd (h : true = false) (by decide)) ?_
          rotate_left
          · intro w hSw; (try dsimp only at hSw); (try go_simp); (try with_reducible rfl)
          try simp only [Act.put, List.setIfInBounds_toArray, List.set_cons_zero, List.set_cons_succ]
          refine until_s0 18 (v := ?_) rfl (by kernel_rfl) (fun _ _ _ h => h) (Or.inl ⟨by rfl, ?_⟩) (by assumption) (fun h => by first | assumption | exact absurd (h : true = false) (by decide)) ?_
          rotate_left
          · intro w hSw; (try dsimp only at hSw); (try go_simp); (try with_reducible rfl)
          try simp only [Act.put, List.setIfInBounds_toArray, List.set_cons_zero, List.set_cons_succ]
          refine until_s0 19 (v := ?_) rfl (by kernel_rfl) (fun _ _ _ h => h) (Or.inl ⟨by rfl, ?_⟩) (by assumption) (fun h => by first | assumption | exact absurd (h : true = false) (by decide)) ?_
          rotate_left
          · intro w hSw; (try dsimp only at hSw); (try go_simp); (try with_reducible rfl)
          try simp only [Act.put, List.setIfInBounds_toArray, List.set_cons_zero, List.set_cons_succ]
          refine until_s0 20 (v := ?_) rfl (by kernel_rfl) (fun _ _ _ h => h) (Or.inl ⟨by rfl, ?_⟩) (by assumption) (fun h => by first | assumption | exact absurd (h : true = false) (by decide)) ?_
          rotate_left
          · intro w hSw; (try dsimp only at hSw); (try go_simp); (try with_reducible rfl)
          try simp only [Act.put, List.setIfInBounds_toArray, List.set_cons_zero, List.set_cons_succ]
          refine until_s0 21 (v := ?_) rfl (by kernel_rfl) (fun _ _ _ h => h) (Or.inl ⟨by rfl, ?_⟩) (by assumption) (fun h => by first | assumption | exact absurd (h : true = false) (by decide)) ?_
          rotate_left
          · intro w hSw; (try dsimp only at hSw); (try go_simp); (try with_reducible rfl)
          try simp only [Act.put, List.setIfInBounds_toArray, List.set_cons_zero, List.set_cons_succ]
          refine until_s0 22 (v := ?_) rfl (by kernel_rfl) (fun _ _ _ h => h) (Or.inl ⟨by rfl, ?_⟩) (by assumption) (fun h => by first | assumption | exact absurd (h : true = false) (by decide)) ?_
          rotate_left
          · intro w hSw; (try dsimp only at hSw); (try go_simp); (try with_reducible rfl)
          try simp only [Act.put, List.setIfInBounds_toArray, List.set_cons_zero, List.set_cons_succ]
          refine until_s0 23 (v := ?_) rfl (by kernel_rfl) (fun _ _ _ h => h) (Or.inl ⟨by rfl, ?_⟩) (by assumption) (fun h => by first | assumption | exact absurd (h : true = false) (by decide)) ?_
          rotate_left
          · intro w hSw; (try dsimp only at hSw); (try go_simp); (try with_reducible rfl)
          try simp only [Act.put, List.setIfInBounds_toArray, List.set_cons_zero, List.set_cons_succ]
          refine until_s0 24 (v := ?_) rfl (by kernel_rfl) (fun _ _ _ h => h) (Or.inl ⟨by rfl, ?_⟩) (by assumption) (fun h => by first | assumption | exact absurd (h : true = false) (by decide)) ?_
          rotate_left
          · intro w hSw; (try dsimp only at hSw); (try go_simp); (try with_reducible rfl)
          try simp only [Act.put, List.setIfInBounds_toArray, List.set_cons_zero, List.set_cons_succ]
          refine until_s0 25 (v := ?_) rfl (by kernel_rfl) (fun _ _ _ h => h) (Or.inl ⟨by rfl, ?_⟩) (by assumption) (fun h => by first | assumption | exact absurd (h : true = false) (by decide)) ?_
          rotate_left
          · intro w hSw; (try dsimp only at hSw); (try go_simp); (try with_reducible rfl)
          try simp only [Act.put, List.setIfInBounds_toArray, List.set_cons_zero, List.set_cons_succ]
          refine until_s0 26 (v := ?_) rfl (by kernel_rfl) (fun _ _ _ h => h) (Or.inl ⟨by rfl, ?_⟩) (by assumption) (fun h => by first | assumption | exact absurd (h : true = false) (by decide)) ?_
          rotate_left
          · intro w hSw; (try dsimp only at hSw); (try go_simp); (try with_reducible rfl)
          try simp only [Act.put, List.setIfInBounds_toArray, List.set_cons_zero, List.set_cons_succ]
          refine until_s0 27 (v := ?_) rfl (by kernel_rfl) (fun _ _ _ h => h) (Or.inl ⟨by rfl, ?_⟩) (by assumption) (fun h => by first | assumption | exact absurd (h : true = false) (by decide)) ?_
          rotate_left
          · intro w hSw; (try dsimp only at hSw); (try go_simp); (try with_reducible rfl)
          try simp only [Act.put, List.setIfInBounds_toArray, List.set_cons_zero, List.set_cons_succ]
          refine until_s0 28 (v := ?_) rfl (by kernel_rfl) (fun _ _ _ h => h) (Or.inl ⟨by rfl, ?_⟩) (by assumption) (fun h => by first | assumption | exact absurd (h : true = false) (by decide)) ?_
          rotate_left
          · intro w hSw; (try dsimp only at hSw); (try go_simp); (try with_reducible rfl)
          try simp only [Act.put, List.setIfInBounds_toArray, List.set_cons_zero, List.set_cons_succ]
          refine until_s0 29 (v := ?_) rfl (by kernel_rfl) (fun _ _ _ h => h) (Or.inl ⟨by rfl, ?_⟩) (by assumption) (fun h => by first | assumption | exact absurd (h : true = false) (by decide)) ?_
          rotate_left
          · intro w hSw; (try dsimp only at hSw); (try go_simp); (try with_reducible rfl)
          try simp only [Act.put, List.setIfInBounds_toArray, List.set_cons_zero, List.set_cons_succ]
          clear s0
          refine until_done (by kernel_rfl) ?_ _
          go_wp2_with fail
          refine wp_region_until (fun w' => w'.cell? ⟨q + 1 + 1, n, none⟩ = some (.int .i64 (wd h)) ∧ w'.cell? ⟨2, n, none⟩ = some (.int .i64 (wd kn)) ∧ w'.cell? ⟨q, n, none⟩ = some (.int .i64 (wd wn))) (fun _ => True) 1000 (by rfl) ?_
          have s0 : _ ∧ _ ∧ _ := ⟨(cE _ C9.drew.drew.drew).2.2.2.1, cR _ (((hF.trans (Fr.drew _ _)).trans (Fr.drew _ _)).trans (Fr.drew _ _)), cW _ C7.drew.drew.drew⟩
          have r3 := fun t => addI3 t h (big1 e) (e &&& f ^^^ ~~~e &&& g)
          have r4 := fun t => addI4 t h (big1 e) (e &&& f ^^^ ~~~e &&& g) kn
          have r5 := fun t => addI5 t h (big1 e) (e &&& f ^^^ ~~~e &&& g) kn wn
          refine until_s0 0 (v := ?_) rfl (by kernel_rfl) (fun _ _ _ h => h) (Or.inl ⟨by rfl, ?_⟩) (by assumption) (fun h => by first | assumption | exact absurd (h : true = false) (by decide)) ?_
          rotate_left
          · intro w hSw; (try dsimp only at hSw); (try go_simp); (try with_reducible rfl)
          try simp only [Act.put, List.setIfInBounds_toArray, List.set_cons_zero, List.set_cons_succ]
          refine until_s0 1 (v := ?_) rfl (by kernel_rfl) (fun _ _ _ h => h) (Or.inl ⟨by rfl, ?_⟩) (by assumption) (fun h => by first | assumption | exact absurd (h : true = false) (by decide)) ?_
          rotate_left
          · intro w hSw; (try dsimp only at hSw); (try go_simp); (try with_reducible rfl)
          try simp only [Act.put, List.setIfInBounds_toArray, List.set_cons_zero, List.set_cons_succ]
          refine until_s0 2 (v := ?_) rfl (by kernel_rfl) (fun _ _ _ h => h) (Or.inl ⟨by rfl, ?_⟩) (by assumption) (fun h => by first | assumption | exact absurd (h : true = false) (by decide)) ?_
          rotate_left
          · intro w hSw; (try dsimp only at hSw); (try go_simp); (try with_reducible rfl)
          try simp only [Act.put, List.setIfInBounds_toArray, List.set_cons_zero, List.set_cons_succ]
          refine until_s0 3 (v := ?_) rfl (by kernel_rfl) (fun _ _ _ h => h) (Or.inl ⟨by rfl, ?_⟩) (by assumption) (fun h => by first | assumption | exact absurd (h : true = false) (by decide)) ?_
          rotate_left
          · intro w hSw; (try dsimp only at hSw); (try go_simp); (try with_reducible rfl)
          try simp only [Act.put, List.setIfInBounds_toArray, List.set_cons_zero, List.set_cons_succ]
          refine until_s0 4 (v := ?_) rfl (by kernel_rfl) (fun _ _ _ h => h) (Or.inl ⟨by rfl, ?_⟩) (by assumption) (fun h => by first | assumption | exact absurd (h : true = false) (by decide)) ?_
          rotate_left
          · intro w hSw; (try dsimp only at hSw); (try go_simp); (try with_reducible rfl)
          try simp only [Act.put, List.setIfInBounds_toArray, List.set_cons_zero, List.set_cons_succ]
          refine until_s0 5 (v := ?_) rfl (by kernel_rfl) (fun _ _ _ h => h) (Or.inl ⟨by rfl, ?_⟩) (by assumption) (fun h => by first | assumption | exact absurd (h : true = false) (by decide)) ?_
          rotate_left
          · intro w hSw; (try dsimp only at hSw); (try go_simp); (try with_reducible rfl)
          try simp only [Act.put, List.setIfInBounds_toArray, List.set_cons_zero, List.set_cons_succ]
          refine until_s0 6 (v := ?_) rfl (by kernel_rfl) (fun _ _ _ h => h) (Or.inl ⟨by rfl, ?_⟩) (by assumption) (fun h => by first | assumption | exact absurd (h : true = false) (by decide)) ?_
          rotate_left
          · intro w hSw; (try dsimp only at hSw); (try go_simp); (try with_reducible rfl)
          try simp only [Act.put, List.setIfInBounds_toArray, List.set_cons_zero, List.set_cons_succ]
          refine until_s0 7 (v := ?_) rfl (by kernel_rfl) (fun _ _ _ h => h) (Or.inl ⟨by rfl, ?_⟩) (by assumption) (fun h => by first | assumption | exact absurd (h : true = false) (by decide)) ?_
          rotate_left
          · intro w hSw; (try dsimp only at hSw); (try go_simp); (try with_reducible rfl)
          try simp only [Act.put, List.setIfInBounds_toArray, List.set_cons_zero, List.set_cons_succ]
          refine until_s0 8 (v := ?_) rfl (by kernel_rfl) (fun _ _ _ h => h) (Or.inl ⟨by rfl, ?_⟩) (by assumption) (fun h => by first | assumption | exact absurd (h : true = false) (by decide)) ?_
          rotate_left
          · intro w hSw; (try dsimp only at hSw); (try go_simp); (try with_reducible rfl)
          try simp only [Act.put, List.setIfInBounds_toArray, List.set_cons_zero, List.set_cons_succ]
          refine until_s0 9 (v := ?_) rfl (by kernel_rfl) (fun _ _ _ h => h) (Or.inl ⟨by rfl, ?_⟩) (by assumption) (fun h => by first | assumption | exact absurd (h : true = false) (by decide)) ?_
          rotate_left
          · intro w hSw; (try dsimp only at hSw); (try go_simp); (try with_reducible rfl)
          try simp only [Act.put, List.setIfInBounds_toArray, List.set_cons_zero, List.set_cons_succ]
          refine until_s0 10 (v := ?_) rfl (by kernel_rfl) (fun _ _ _ h => h) (Or.inl ⟨by rfl, ?_⟩) (by assumption) (fun h => by first | assumption | exact absurd (h : true = false) (by decide)) ?_
          rotate_left
          · intro w hSw; (try dsimp only at hSw); (try go_simp); (try with_reducible rfl)
          try simp only [Act.put, List.setIfInBounds_toArray, List.set_cons_zero, List.set_cons_succ]
          refine until_s0 11 (v := ?_) rfl (by kernel_rfl) (fun _ _ _ h => h) (Or.inl ⟨by rfl, ?_⟩) (by assumption) (fun h => by first | assumption | exact absurd (h : true = false) (by decide)) ?_
          rotate_left
          · intro w hSw; (try dsimp only at hSw); (try go_simp); (try with_reducible rfl)
          try simp only [Act.put, List.setIfInBounds_toArray, List.set_cons_zero, List.set_cons_succ]
          refine until_s0 12 (v := ?_) rfl (by kernel_rfl) (fun _ _ _ h => h) (Or.inl ⟨by rfl, ?_⟩) (by assumption) (fun h => by first | assumption | exact absurd (h : true = false) (by decide)) ?_
          rotate_left
          · intro w hSw; (try dsimp only at hSw); (try go_simp); (try with_reducible rfl)
          try simp only [Act.put, List.setIfInBounds_toArray, List.set_cons_zero, List.set_cons_succ]
          refine until_s0 13 (v := ?_) rfl (by kernel_rfl) (fun _ _ _ h => h) (Or.inl ⟨by rfl, ?_⟩) (by assumption) (fun h => by first | assumption | exact absurd (h : true = false) (by decide)) ?_
          rotate_left
          · intro w hSw; (try dsimp only at hSw); (try go_simp); (try with_reducible rfl)
          try simp only [Act.put, List.setIfInBounds_toArray, List.set_cons_zero, List.set_cons_succ]
          refine until_s0 14 (v := ?_) rfl (by kernel_rfl) (fun _ _ _ h => h) (Or.inl ⟨by rfl, ?_⟩) (by assumption) (fun h => by first | assumption | exact absurd (h : true = false) (by decide)) ?_
          rotate_left
          · intro w hSw; (try dsimp only at hSw); (try go_simp); (try with_reducible rfl)
          try simp only [Act.put, List.setIfInBounds_toArray, List.set_cons_zero, List.set_cons_succ]
          refine until_s0 15 (v := ?_) rfl (by kernel_rfl) (fun _ _ _ h => h) (Or.inl ⟨by rfl, ?_⟩) (by assumption) (fun h => by first | assumption | exact absurd (h : true = false) (by decide)) ?_
          rotate_left
          · intro w hSw; (try dsimp only at hSw); (try go_simp); (try with_reducible rfl)
          try simp only [Act.put, List.setIfInBounds_toArray, List.set_cons_zero, List.set_cons_succ]
          clear s0 r3 r4 r5
          refine until_done (by kernel_rfl) ?_ _
          generalize hT : wd h + wd (big1 e) + wd (e &&& f ^^^ ~~~e &&& g) + wd kn + wd wn = T
          have u1 := fun t => (endE t h (big1 e) (e &&& f ^^^ ~~~e &&& g) kn wn d T hT.symm).1
          have u2 := fun t => (endE t h (big1 e) (e &&& f ^^^ ~~~e &&& g) kn wn d T hT.symm).2
          have u3 := fun t => (endA t h (big1 e) (e &&& f ^^^ ~~~e &&& g) kn wn (big0 a) (a &&& b ^^^ a &&& c ^^^ b &&& c) T hT.symm).1
          have u4 := fun t => (endA t h (big1 e) (e &&& f ^^^ ~~~e &&& g) kn wn (big0 a) (a &&& b ^^^ a &&& c ^^^ b &&& c) T hT.symm).2.1
          have u5 := fun t => (endA t h (big1 e) (e &&& f ^^^ ~~~e &&& g) kn wn (big0 a) (a &&& b ^^^ a &&& c ^^^ b &&& c) T hT.symm).2.2
          clear hT
          have cd := (cA _ C8).2.2.2.1
          have oA := (cA _ C8).2.2.2.2.1
          have fA := (cA _ C8).2.2.2.2.2
          have oE := (cE _ C9).2.2.2.2.1
          have fE := (cE _ C9).2.2.2.2.2
          go_wp2_with fail
          have sA' : (pad68 (rowA H W n)).set (n + 4) (h + big1 e + (e &&& f ^^^ ~~~e &&& g) + kn + wn + (big0 a + (a &&& b ^^^ a &&& c ^^^ b &&& c))) = pad68 (rowA H W (n + 1)) := HS.out.1
          have sE' : (pad68 (rowE H W n)).set (n + 4) (d + (h + big1 e + (e &&& f ^^^ ~~~e &&& g) + kn + wn)) = pad68 (rowE H W (n + 1)) := HS.out.2
          refine ⟨⟨n + 1, by omega, by simp, ?_, ?_, ?_, ?_, ?_, ?_⟩, by simp only [intOf]; omega⟩
          · exact (C7.setCell_other (by show q ≠ q + 1 + 1; omega) _).setCell_other (by show q ≠ q + 1; omega) _
          · rw [← sA', ← icells_set]; exact (C8.setCell_other (by show q + 1 ≠ q + 1 + 1; omega) _).setCell (n + 4) _
          · rw [← sE', ← icells_set]; exact (C9.setCell (n + 4) _).setCell_other (by show q + 1 + 1 ≠ q + 1; omega) _
          · exact (C3.setCell_other (by show w.heap.size ≠ q + 1 + 1; omega) _).setCell_other (by show w.heap.size ≠ q + 1; omega) _
          · exact (C6.setCell_other (by show w.heap.size + 1 ≠ q + 1 + 1; omega) _).setCell_other (by show w.heap.size + 1 ≠ q + 1; omega) _
          · exact hF.new (S := [q + 1, q + 1 + 1]) (((Fr.setCell [q + 1, q + 1 + 1] w4 ⟨q + 1 + 1, n + 4, none⟩ _ (.inl (by simp))).trans (Fr.setCell [q + 1, q + 1 + 1] _ ⟨q + 1, n + 4, none⟩ _ (.inl (by simp)))).trans ⟨rfl, rfl, rfl, Nat.le_refl _, fun _ _ _ => rfl⟩) (by simp; omega)
        · obtain rfl : n = 64 := by omega
          obtain ⟨⟨ra, rb, rc, rd⟩, ⟨re, rf, rg, rh⟩⟩ := rows_say H W 64
          obtain ⟨⟨a, b, c, d, e, f, g, h⟩, hst⟩ : ∃ st, st = steps H W 64 := ⟨_, rfl⟩
          rw [← hst] at ra rb rc rd re rf rg rh
          dsimp only at ra rb rc rd re rf rg rh
          have hA : ∀ i, i < 4 → (rowA H W 64).getD (67 - i) 0 = [a, b, c, d].getD i 0 := by
            intro i hi
            match i, hi with
            | 0, _ => exact ra.symm
            | 1, _ => exact rb.symm
            | 2, _ => exact rc.symm
            | 3, _ => exact rd.symm
          have hE : ∀ i, i < 4 → (rowE H W 64).getD (67 - i) 0 = [e, f, g, h].getD i 0 := by
            intro i hi
            match i, hi with
            | 0, _ => exact re.symm
            | 1, _ => exact rf.symm
            | 2, _ => exact rg.symm
            | 3, _ => exact rh.symm
          have hz := zip8 H hH ⟨a, b, c, d, e, f, g, h⟩
          have HM2 := Lib.hid (And.intro HM.out (And.intro hst hz))
          clear ra rb rc rd re rf rg rh hst hz
          go_wp2_with fail
          have k8 := C8.lt
          have k9 := C9.lt
          have k3 := C3.lt
          have k6 := C6.lt
          have kw := hF.size
          obtain ⟨r, hr⟩ : ∃ r, r = wr.heap.size := ⟨_, rfl⟩
          have C17 := At.alloc_new wr 58 (icells (outP H [a, b, c, d] [e, f, g, h] 0)).toArray
          rw [List.toList_toArray, ← hr] at C17
          rw [← hr]
          have hw3 : w.heap.size ≤ r := by omega
          have m8 : q + 1 ≠ r := by omega
          have m9 : q + 1 + 1 ≠ r := by omega
          have m3 : w.heap.size ≠ r := by omega
          have m6 : w.heap.size + 1 ≠ r := by omega
          have lA : (rowA H W 64).length = 68 := rowA_len H W 64
          have lE : (rowE H W 64).length = 68 := rowE_len H W 64
          have pA : pad68 (rowA H W 64) = rowA H W 64 := by simp [pad68, lA]
          have pE : pad68 (rowE H W 64) = rowE H W 64 := by simp [pad68, lE]
          rw [pA] at C8
          rw [pE] at C9
          have D8 := C8.alloc (.cells (icells (outP H [a, b, c, d] [e, f, g, h] 0)).toArray 58)
          have D9 := C9.alloc (.cells (icells (outP H [a, b, c, d] [e, f, g, h] 0)).toArray 58)
          have D3 := C3.alloc (.cells (icells (outP H [a, b, c, d] [e, f, g, h] 0)).toArray 58)
          have D6 := C6.alloc (.cells (icells (outP H [a, b, c, d] [e, f, g, h] 0)).toArray 58)
          have DF := hF.trans (Fr.alloc [] wr (.cells (icells (outP H [a, b, c, d] [e, f, g, h] 0)).toArray 58))
          have hout0 : (icells (outP H [a, b, c, d] [e, f, g, h] 0)).toArray = #[Value.int .i64 0, Value.int .i64 0, Value.int .i64 0, Value.int .i64 0, Value.int .i64 0, Value.int .i64 0, Value.int .i64 0, Value.int .i64 0] := by simp [outP, icells]; rfl
          rw [hout0] at C17 D8 D9 D3 D6 DF
          clear C8 C9 C3 C6 C7 hF k8 k9 k3 k6 kw hr hout0
          go_loopw [18] (fun v wx => ∃ i : Nat, i ≤ 4 ∧ v = .int .i64 i ∧ At wx r 58 (icells (outP H [a, b, c, d] [e, f, g, h] i)) ∧ At wx (q + 1) 89 (icells (rowA H W 64)) ∧ At wx (q + 1 + 1) 89 (icells (rowE H W 64)) ∧ At wx w.heap.size 58 (icells H) ∧ At wx (w.heap.size + 1) 58 [Value.int .i64 0, Value.int .i64 0, Value.int .i64 0, Value.int .i64 0, Value.int .i64 0, Value.int .i64 0, Value.int .i64 0, Value.int .i64 0] ∧ Fr [] w wx) (fun v _ => 4 - (intOf v).toNat)
          case atStart => exact ⟨0, by omega, rfl, C17, D8, D9, D3, D6, DF⟩
          case round =>
            clear C17 D8 D9 D3 D6 DF
            obtain ⟨i, hi, rfl, C17, C8, C9, C3, C6, hF⟩ := hrel
            by_cases hl : i < 4
            · have l1 : (i : Int) < 4 := by omega
              have l8 : (i : Int) < 8 := by omega
              have w67 : IntKind.i64.wrap (67 - (i : Int)) = ((67 - i : Nat) : Int) := by rw [IntWalk.i64_in _ (by omega)]; omega
              have q67 : ((67 - i : Nat) : Int) < 68 := by omega
              have w4i : IntKind.i64.wrap (4 + (i : Int)) = ((4 + i : Nat) : Int) := by rw [IntWalk.i64_in _ (by omega)]; omega
              have q4i : ((4 + i : Nat) : Int) < 8 := by omega
              have hol := outP_len H hH a b c d e f g h i hi
              have c3 := C3.cell i
              have c4 := C3.cell (4 + i)
              rw [icells_get _ _ (by omega)] at c3 c4
              have c8 := C8.cell (67 - i)
              rw [icells_get _ _ (by omega), hA i hl] at c8
              have c9 := C9.cell (67 - i)
              rw [icells_get _ _ (by omega), hE i hl] at c9
              have o1 := C17.cell i
              rw [icells_get _ _ (by omega)] at o1
              have o2 := C17.cell (4 + i)
              rw [icells_get _ _ (by omega)] at o2
              have g1 := C17.frozen i
              have g2 := C17.frozen (4 + i)
              have hset := outP_set H hH a b c d e f g h i hl
              have hne : i ≠ 4 + i := by omega
              generalize (outP H [a, b, c, d] [e, f, g, h] i).getD i 0 = old1 at o1
              generalize (outP H [a, b, c, d] [e, f, g, h] i).getD (4 + i) 0 = old2 at o2
              generalize H.getD i 0 = x at c3 hset
              generalize H.getD (4 + i) 0 = x2 at c4 hset
              generalize [a, b, c, d].getD i 0 = y at c8 hset
              generalize [e, f, g, h].getD i 0 = y2 at c9 hset
              generalize hn : 67 - i = n at c8 c9 w67 q67
              generalize hn2 : 4 + i = n2 at c4 o2 g2 hset w4i q4i hne
              have HS := Lib.hid hset
              clear hset hol hn
              go_wp2_with fail
              refine wp_region_until (fun _ => True) (fun w' => w'.cell? ⟨w.heap.size, i, none⟩ = some (.int .i64 (wd x)) ∧ w'.cell? ⟨q + 1, n, none⟩ = some (.int .i64 (wd y))) 13 (by rfl) ?_
              have hT1 : True := trivial
              have s1 : _ ∧ _ := ⟨c3, c8⟩
              have s1' := fun (_ : (false = false)) => s1
              refine until_s0 0 (v := ?_) rfl (by kernel_rfl) (fun _ _ _ h => h) (Or.inl ⟨by rfl, ?_⟩) (by assumption) (fun h => by first | assumption | exact absurd (h : true = false) (by decide)) ?_
              rotate_left
              · intro w hSw; (try dsimp only at hSw); (try go_simp); (try with_reducible rfl)
              try simp only [Act.put, List.setIfInBounds_toArray, List.set_cons_zero, List.set_cons_succ]
              refine until_s0 1 (v := ?_) rfl (by kernel_rfl) (fun _ _ _ h => h) (Or.inl ⟨by rfl, ?_⟩) (by assumption) (fun h => by first | assumption | exact absurd (h : true = false) (by decide)) ?_
              rotate_left
              · intro w hSw; (try dsimp only at hSw); (try go_simp); (try with_reducible rfl)
              try simp only [Act.put, List.setIfInBounds_toArray, List.set_cons_zero, List.set_cons_succ]
              refine until_s0 2 (v := ?_) rfl (by kernel_rfl) (fun _ _ _ h => h) (Or.inl ⟨by rfl, ?_⟩) (by assumption) (fun h => by first | assumption | exact absurd (h : true = false) (by decide)) ?_
              rotate_left
              · intro w hSw; (try dsimp only at hSw); (try go_simp); (try with_reducible rfl)
              try simp only [Act.put, List.setIfInBounds_toArray, List.set_cons_zero, List.set_cons_succ]
              refine until_s0 3 (v := ?_) rfl (by kernel_rfl) (fun _ _ _ h => h) (Or.inl ⟨by rfl, ?_⟩) (by assumption) (fun h => by first | assumption | exact absurd (h : true = false) (by decide)) ?_
              rotate_left
              · intro w hSw; (try dsimp only at hSw); (try go_simp); (try with_reducible rfl)
              try simp only [Act.put, List.setIfInBounds_toArray, List.set_cons_zero, List.set_cons_succ]
              refine until_s1 4 (v := ?_) rfl (by kernel_rfl) (fun _ _ _ h => h) (Or.inl ⟨by rfl, ?_⟩) (by assumption) (fun h => by first | assumption | exact absurd (h : true = false) (by decide)) ?_
              rotate_left
              · intro w hSw; (try dsimp only at hSw); (try go_simp); (try with_reducible rfl)
              try simp only [Act.put, List.setIfInBounds_toArray, List.set_cons_zero, List.set_cons_succ]
              refine until_s0 5 (v := ?_) rfl (by kernel_rfl) (fun _ _ _ h => h) (Or.inl ⟨by rfl, ?_⟩) (by assumption) (fun h => by first | assumption | exact absurd (h : true = false) (by decide)) ?_
              rotate_left
              · intro w hSw; (try dsimp only at hSw); (try go_simp); (try with_reducible rfl)
              try simp only [Act.put, List.setIfInBounds_toArray, List.set_cons_zero, List.set_cons_succ]
              refine until_s0 6 (v := ?_) rfl (by kernel_rfl) (fun _ _ _ h => h) (Or.inl ⟨by rfl, ?_⟩) (by assumption) (fun h => by first | assumption | exact absurd (h : true = false) (by decide)) ?_
              rotate_left
              · intro w hSw; (try dsimp only at hSw); (try go_simp); (try with_reducible rfl)
              try simp only [Act.put, List.setIfInBounds_toArray, List.set_cons_zero, List.set_cons_succ]
              refine until_s0 7 (v := ?_) rfl (by kernel_rfl) (fun _ _ _ h => h) (Or.inl ⟨by rfl, ?_⟩) (by assumption) (fun h => by first | assumption | exact absurd (h : true = false) (by decide)) ?_
              rotate_left
              · intro w hSw; (try dsimp only at hSw); (try go_simp); (try with_reducible rfl)
              try simp only [Act.put, List.setIfInBounds_toArray, List.set_cons_zero, List.set_cons_succ]
              refine until_s1 8 (v := ?_) rfl (by kernel_rfl) (fun _ _ _ h => h) (Or.inl ⟨by rfl, ?_⟩) (by assumption) (fun h => by first | assumption | exact absurd (h : true = false) (by decide)) ?_
              rotate_left
              · intro w hSw; (try dsimp only at hSw); (try go_simp); (try with_reducible rfl)
              try simp only [Act.put, List.setIfInBounds_toArray, List.set_cons_zero, List.set_cons_succ]
              refine until_s0 9 (v := ?_) rfl (by kernel_rfl) (fun _ _ _ h => h) (Or.inl ⟨by rfl, ?_⟩) (by assumption) (fun h => by first | assumption | exact absurd (h : true = false) (by decide)) ?_
              rotate_left
              · intro w hSw; (try dsimp only at hSw); (try go_simp); (try with_reducible rfl)
              try simp only [Act.put, List.setIfInBounds_toArray, List.set_cons_zero, List.set_cons_succ]
              refine until_s0 10 (v := ?_) rfl (by kernel_rfl) (fun _ _ _ h => h) (Or.inl ⟨by rfl, ?_⟩) (by assumption) (fun h => by first | assumption | exact absurd (h : true = false) (by decide)) ?_
              rotate_left
              · intro w hSw; (try dsimp only at hSw); (try go_simp); (try with_reducible rfl)
              try simp only [Act.put, List.setIfInBounds_toArray, List.set_cons_zero, List.set_cons_succ]
              refine until_s0 11 (v := ?_) rfl (by kernel_rfl) (fun _ _ _ h => h) (Or.inl ⟨by rfl, ?_⟩) (by assumption) (fun h => by first | assumption | exact absurd (h : true = false) (by decide)) ?_
              rotate_left
              · intro w hSw; (try dsimp only at hSw); (try go_simp); (try with_reducible rfl)
              try simp only [Act.put, List.setIfInBounds_toArray, List.set_cons_zero, List.set_cons_succ]
              refine until_s0 12 (v := ?_) rfl (by kernel_rfl) (fun _ _ _ h => h) (Or.inl ⟨by rfl, ?_⟩) (by assumption) (fun h => by first | assumption | exact absurd (h : true = false) (by decide)) ?_
              rotate_left
              · intro w hSw; (try dsimp only at hSw); (try go_simp); (try with_reducible rfl)
              try simp only [Act.put, List.setIfInBounds_toArray, List.set_cons_zero, List.set_cons_succ]
              refine until_sole 13 rfl (by kernel_rfl) (by rfl) ?_
              intro K' hK
              go_simp
              refine hK _ _ trivial (fun h => absurd (h : true = false) (by decide)) ?_
              clear hK s1 s1'
              refine until_done (by kernel_rfl) ?_ _
              go_wp2_with fail
              have C3' := C3.setCell_other (a := ⟨r, i, none⟩) (show w.heap.size ≠ r from m3) (.int .i64 (wd (x + y)))
              have C9' := C9.setCell_other (a := ⟨r, i, none⟩) (show q + 1 + 1 ≠ r from m9) (.int .i64 (wd (x + y)))
              refine wp_region_until (fun _ => True) (fun w' => w'.cell? ⟨w.heap.size, n2, none⟩ = some (.int .i64 (wd x2)) ∧ w'.cell? ⟨q + 1 + 1, n, none⟩ = some (.int .i64 (wd y2))) 15 (by rfl) ?_
              have s1 : _ ∧ _ := ⟨(C3'.cell n2).trans ((C3.cell n2).symm.trans c4), (C9'.cell n).trans ((C9.cell n).symm.trans c9)⟩
              have s1' := fun (_ : (false = false)) => s1
              refine until_s0 0 (v := ?_) rfl (by kernel_rfl) (fun _ _ _ h => h) (Or.inl ⟨by rfl, ?_⟩) (by assumption) (fun h => by first | assumption | exact absurd (h : true = false) (by decide)) ?_
              rotate_left
              · intro w hSw; (try dsimp only at hSw); (try go_simp); (try with_reducible rfl)
              try simp only [Act.put, List.setIfInBounds_toArray, List.set_cons_zero, List.set_cons_succ]
              refine until_s0 1 (v := ?_) rfl (by kernel_rfl) (fun _ _ _ h => h) (Or.inl ⟨by rfl, ?_⟩) (by assumption) (fun h => by first | assumption | exact absurd (h : true = false) (by decide)) ?_
              rotate_left
              · intro w hSw; (try dsimp only at hSw); (try go_simp); (try with_reducible rfl)
              try simp only [Act.put, List.setIfInBounds_toArray, List.set_cons_zero, List.set_cons_succ]
              refine until_s0 2 (v := ?_) rfl (by kernel_rfl) (fun _ _ _ h => h) (Or.inl ⟨by rfl, ?_⟩) (by assumption) (fun h => by first | assumption | exact absurd (h : true = false) (by decide)) ?_
              rotate_left
              · intro w hSw; (try dsimp only at hSw); (try go_simp); (try with_reducible rfl)
              try simp only [Act.put, List.setIfInBounds_toArray, List.set_cons_zero, List.set_cons_succ]
              refine until_s0 3 (v := ?_) rfl (by kernel_rfl) (fun _ _ _ h => h) (Or.inl ⟨by rfl, ?_⟩) (by assumption) (fun h => by first | assumption | exact absurd (h : true = false) (by decide)) ?_
              rotate_left
              · intro w hSw; (try dsimp only at hSw); (try go_simp); (try with_reducible rfl)
              try simp only [Act.put, List.setIfInBounds_toArray, List.set_cons_zero, List.set_cons_succ]
              refine until_s0 4 (v := ?_) rfl (by kernel_rfl) (fun _ _ _ h => h) (Or.inl ⟨by rfl, ?_⟩) (by assumption) (fun h => by first | assumption | exact absurd (h : true = false) (by decide)) ?_
              rotate_left
              · intro w hSw; (try dsimp only at hSw); (try go_simp); (try with_reducible rfl)
              try simp only [Act.put, List.setIfInBounds_toArray, List.set_cons_zero, List.set_cons_succ]
              refine until_s0 5 (v := ?_) rfl (by kernel_rfl) (fun _ _ _ h => h) (Or.inl ⟨by rfl, ?_⟩) (by assumption) (fun h => by first | assumption | exact absurd (h : true = false) (by decide)) ?_
              rotate_left
              · intro w hSw; (try dsimp only at hSw); (try go_simp); (try with_reducible rfl)
              try simp only [Act.put, List.setIfInBounds_toArray, List.set_cons_zero, List.set_cons_succ]
              refine until_s1 6 (v := ?_) rfl (by kernel_rfl) (fun _ _ _ h => h) (Or.inl ⟨by rfl, ?_⟩) (by assumption) (fun h => by first | assumption | exact absurd (h : true = false) (by decide)) ?_
              rotate_left
              · intro w hSw; (try dsimp only at hSw); (try go_simp); (try with_reducible rfl)
              try simp only [Act.put, List.setIfInBounds_toArray, List.set_cons_zero, List.set_cons_succ]
              refine until_s0 7 (v := ?_) rfl (by kernel_rfl) (fun _ _ _ h => h) (Or.inl ⟨by rfl, ?_⟩) (by assumption) (fun h => by first | assumption | exact absurd (h : true = false) (by decide)) ?_
              rotate_left
              · intro w hSw; (try dsimp only at hSw); (try go_simp); (try with_reducible rfl)
              try simp only [Act.put, List.setIfInBounds_toArray, List.set_cons_zero, List.set_cons_succ]
              refine until_s0 8 (v := ?_) rfl (by kernel_rfl) (fun _ _ _ h => h) (Or.inl ⟨by rfl, ?_⟩) (by assumption) (fun h => by first | assumption | exact absurd (h : true = false) (by decide)) ?_
              rotate_left
              · intro w hSw; (try dsimp only at hSw); (try go_simp); (try with_reducible rfl)
              try simp only [Act.put, List.setIfInBounds_toArray, List.set_cons_zero, List.set_cons_succ]
              refine until_s0 9 (v := ?_) rfl (by kernel_rfl) (fun _ _ _ h => h) (Or.inl ⟨by rfl, ?_⟩) (by assumption) (fun h => by first | assumption | exact absurd (h : true = false) (by decide)) ?_
              rotate_left
              · intro w hSw; (try dsimp only at hSw); (try go_simp); (try with_reducible rfl)
              try simp only [Act.put, List.setIfInBounds_toArray, List.set_cons_zero, List.set_cons_succ]
              refine until_s1 10 (v := ?_) rfl (by kernel_rfl) (fun _ _ _ h => h) (Or.inl ⟨by rfl, ?_⟩) (by assumption) (fun h => by first | assumption | exact absurd (h : true = false) (by decide)) ?_
              rotate_left
              · intro w hSw; (try dsimp only at hSw); (try go_simp); (try with_reducible rfl)
              try simp only [Act.put, List.setIfInBounds_toArray, List.set_cons_zero, List.set_cons_succ]
              refine until_s0 11 (v := ?_) rfl (by kernel_rfl) (fun _ _ _ h => h) (Or.inl ⟨by rfl, ?_⟩) (by assumption) (fun h => by first | assumption | exact absurd (h : true = false) (by decide)) ?_
              rotate_left
              · intro w hSw; (try dsimp only at hSw); (try go_simp); (try with_reducible rfl)
              try simp only [Act.put, List.setIfInBounds_toArray, List.set_cons_zero, List.set_cons_succ]
              refine until_s0 12 (v := ?_) rfl (by kernel_rfl) (fun _ _ _ h => h) (Or.inl ⟨by rfl, ?_⟩) (by assumption) (fun h => by first | assumption | exact absurd (h : true = false) (by decide)) ?_
              rotate_left
              · intro w hSw; (try dsimp only at hSw); (try go_simp); (try with_reducible rfl)
              try simp only [Act.put, List.setIfInBounds_toArray, List.set_cons_zero, List.set_cons_succ]
              refine until_s0 13 (v := ?_) rfl (by kernel_rfl) (fun _ _ _ h => h) (Or.inl ⟨by rfl, ?_⟩) (by assumption) (fun h => by first | assumption | exact absurd (h : true = false) (by decide)) ?_
              rotate_left
              · intro w hSw; (try dsimp only at hSw); (try go_simp); (try with_reducible rfl)
              try simp only [Act.put, List.setIfInBounds_toArray, List.set_cons_zero, List.set_cons_succ]
              refine until_s0 14 (v := ?_) rfl (by kernel_rfl) (fun _ _ _ h => h) (Or.inl ⟨by rfl, ?_⟩) (by assumption) (fun h => by first | assumption | exact absurd (h : true = false) (by decide)) ?_
              rotate_left
              · intro w hSw; (try dsimp only at hSw); (try go_simp); (try with_reducible rfl)
              try simp only [Act.put, List.setIfInBounds_toArray, List.set_cons_zero, List.set_cons_succ]
              refine until_sole 15 rfl (by kernel_rfl) (by rfl) ?_
              intro K' hK
              go_simp
              refine hK _ _ trivial (fun h => absurd (h : true = false) (by decide)) ?_
              clear hK s1 s1'
              refine until_done (by kernel_rfl) ?_ _
              go_wp2_with fail
              refine ⟨⟨i + 1, by omega, by simp, ?_, ?_, ?_, ?_, ?_, ?_⟩, by simp only [intOf]; omega⟩
              · rw [← HS.out, ← icells_set, ← icells_set]; exact (C17.setCell i _).setCell n2 _
              · exact (C8.setCell_other (a := ⟨r, i, none⟩) (show q + 1 ≠ r from m8) _).setCell_other (a := ⟨r, n2, none⟩) (show q + 1 ≠ r from m8) _
              · exact C9'.setCell_other (a := ⟨r, n2, none⟩) (show q + 1 + 1 ≠ r from m9) _
              · exact C3'.setCell_other (a := ⟨r, n2, none⟩) (show w.heap.size ≠ r from m3) _
              · exact (C6.setCell_other (a := ⟨r, i, none⟩) (show w.heap.size + 1 ≠ r from m6) _).setCell_other (a := ⟨r, n2, none⟩) (show w.heap.size + 1 ≠ r from m6) _
              · exact hF.new (S := [r]) (((Fr.setCell [r] wr ⟨r, i, none⟩ _ (.inl (by simp))).trans (Fr.setCell [r] _ ⟨r, n2, none⟩ _ (.inl (by simp)))).trans ⟨rfl, rfl, rfl, Nat.le_refl _, fun _ _ _ => rfl⟩) (by simp; exact hw3)
            · obtain rfl : i = 4 := by omega
              have e4 := outP_end H hH a b c d e f g h
              rw [e4] at C17
              have hans : mixL H M = List.zipWith (· + ·) H (St.list ⟨a, b, c, d, e, f, g, h⟩) := by rw [HM2.out.1.2.2, HM2.out.2.1]
              rw [← hans] at C17
              have hml := mixL_len H M hH
              have hsz : (Tryd.prog.info? 58).map (·.size) = some (icells (mixL H M)).toArray.size := by rw [List.size_toArray, icells_len, hml]; kernel_rfl
              have hold : [Value.int .i64 0, Value.int .i64 0, Value.int .i64 0, Value.int .i64 0, Value.int .i64 0, Value.int .i64 0, Value.int .i64 0, Value.int .i64 0].toArray.size = (icells (mixL H M)).toArray.size := by rw [List.size_toArray, List.size_toArray, icells_len, hml]; rfl
              have HANS := Lib.hid hans
              clear hans e4
              go_wp2_with (first
                | refine wpList_load_row rfl _ _ rfl _ rfl _ _ _ _ C17.out Tryd.underlying58 rfl hsz ?_
                | refine wpList_store_row rfl _ _ _ rfl _ _ rfl rfl _ _ C6.out hsz hold (icells_one _) ?_
                | fail)
              have C6' := C6.setRow (icells (mixL H M)).toArray
              rw [List.toList_toArray] at C6'
              rw [← HM2.out.1.2.2]
              refine ⟨rfl, _, ?_, rfl, hF.new (S := [w.heap.size + 1]) (Fr.setRow _ _ _ _ (.inl (by simp))) (by simp)⟩
              refine results_cell_row (p := 6) (ty := 58) (by rfl) _ _ (w.heap.size + 1) 58 _ (0, 0) _ ?_ C6'.out Tryd.underlying58 rfl hsz
              simp only [Act.put, List.setIfInBounds_toArray, List.set_cons_zero, List.set_cons_succ, Array.getD_eq_getD_getElem?, List.getElem?_toArray, List.getElem?_cons_succ, List.getElem?_cons_zero, Option.getD_some]
end Go.Proofs.YtkagmoaapampgaaDoor
