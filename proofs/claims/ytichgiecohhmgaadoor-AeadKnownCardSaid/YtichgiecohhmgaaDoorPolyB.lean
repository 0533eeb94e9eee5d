/- The program's Poly1305: a whole block taken in. -/
import Derived.Test.YtichgiecohhmgaaDoorPolyA
import Derived.Test.YtichgiecohhmgaaDoorMid
namespace Go.Proofs.YtichgiecohhmgaaDoor
open Go.RowKit Go.Lib Go.Joins Base
set_option linter.unusedVariables false
set_option linter.unusedSimpArgs false

/-- A tag that runs along: its cells. -/
def mcells (acc r s : List UInt64) (rest : List UInt8) (held : Nat) : List Value := qcells acc ++ (qcells r ++ (qcells s ++ (byteCells rest ++ [.int .i64 (held : Int)])))
theorem mcells_acc (acc r s : List UInt64) (rest : List UInt8) (held i : Nat) (ha : acc.length = 5) (hi : i < 5) : (mcells acc r s rest held)[i]? = some (.int .u64 (qd (acc.getD i 0))) := by
  unfold mcells; rw [List.getElem?_append_left (by rw [qcells_len]; omega), qcells_get _ _ (by omega)]
theorem mcells_r (acc r s : List UInt64) (rest : List UInt8) (held i : Nat) (ha : acc.length = 5) (hr : r.length = 5) (hi : i < 5) : (mcells acc r s rest held)[5 + i]? = some (.int .u64 (qd (r.getD i 0))) := by
  unfold mcells
  rw [List.getElem?_append_right (by rw [qcells_len]; omega), qcells_len, ha, List.getElem?_append_left (by rw [qcells_len]; omega), Nat.add_sub_cancel_left, qcells_get _ _ (by omega)]
theorem mcells_set (acc r s : List UInt64) (rest : List UInt8) (held i : Nat) (x : UInt64) (hi : i < acc.length) : (mcells acc r s rest held).set i (.int .u64 (qd x)) = mcells (acc.set i x) r s rest held := by
  unfold mcells; rw [List.set_append_left _ _ (by rw [qcells_len]; omega), qcells_set]
theorem addL_len (a n : List UInt64) : (addL a n).length = min a.length n.length := by simp [addL]
theorem addUp_len (a n : List UInt64) (i : Nat) (h : a.length = n.length) : (addUp a n i).length = a.length := by
  simp [addUp, addL_len, h]; omega
theorem addUp_get (a n : List UInt64) (i : Nat) (h : a.length = n.length) (hi : i < a.length) : (addUp a n i).getD i 0 = a.getD i 0 := by
  have e : ((addL a n).take i).length = i := by rw [List.length_take, addL_len]; omega
  simp only [addUp, List.getD]
  rw [List.getElem?_append_right (by omega), e, Nat.sub_self, List.getElem?_drop, Nat.add_zero]
theorem addUp_succ (a n : List UInt64) (i : Nat) (h : a.length = n.length) (hi : i < a.length) : (addUp a n i).set i (a.getD i 0 + n.getD i 0) = addUp a n (i + 1) := by
  have e : ((addL a n).take i).length = i := by rw [List.length_take, addL_len]; omega
  have g : (addL a n)[i]? = some (a.getD i 0 + n.getD i 0) := by
    simp [addL, List.getElem?_zipWith, List.getD, List.getElem?_eq_getElem hi, List.getElem?_eq_getElem (show i < n.length by omega)]
  unfold addUp
  rw [List.set_append_right _ _ (by omega), e, Nat.sub_self, List.take_add_one, g, List.drop_eq_getElem_cons hi, List.set_cons_zero]
  simp
theorem qcells_one (s : List UInt64) : (qcells s).toArray.all (·.oneCell') = true := all_oneCell_toArray (by intro v hv; obtain ⟨x, _, rfl⟩ := List.mem_map.1 hv; rfl)
theorem mcells_there {w : World} {b : Nat} {acc r s : List UInt64} {rest : List UInt8} {held m : Nat} (h : At w b 87 (mcells acc r s rest held)) (hm : m ≤ acc.length) : w.there b 0 m := by
  intro j hj
  rw [Nat.zero_add, h.cell, mcells, List.getElem?_append_left (by rw [qcells_len]; omega)]
  exact ⟨by simp [qcells]; omega, h.frozen _⟩

set_option maxRecDepth 100000 in
set_option maxHeartbeats 2000000 in
theorem pblock_any (acc r s : List UInt64) (rest : List UInt8) (held : Nat) (n : List UInt64) (ha : acc.length = 5) (hr : r.length = 5) (hn : n.length = 5) (b : Nat) (w : World) (h : At w b 87 (mcells acc r s rest held)) :
    Calls Tryd.prog 56 #[.pointer (some ⟨b, 0, none⟩), .agg (qcells n).toArray] w fun e w' => e = .returned (.tuple #[]) ∧ At w' b 87 (mcells (blockL acc r n) r s rest held) ∧ Fr [b] w w' := by
  obtain ⟨t, ht⟩ : ∃ t, t = w.heap.size := ⟨_, rfl⟩
  obtain ⟨W, hW⟩ : ∃ W, W = w.alloc (.cells (qcells n).toArray 82) := ⟨_, rfl⟩
  have T0 := At.alloc_new w 82 (qcells n).toArray
  rw [← hW, ← ht, List.toList_toArray] at T0
  have F0 := Fr.alloc [b] w (.cells (qcells n).toArray 82)
  rw [← hW] at F0
  have B0 : At W b 87 (mcells (addUp acc n 0) r s rest held) := by rw [hW]; exact h.alloc _
  have hbt : b < t := by rw [ht]; exact h.lt
  go_enter Tryd.func56, Tryd.ntmps56
  go_wp2_with fail
  rw [← hW, ← ht]
  clear h
  have HT := Lib.hid (And.intro ht hbt)
  clear ht hbt hW
  go_loopw [9] (fun v wr => ∃ i : Nat, i ≤ 5 ∧ v = .int .i64 i ∧ At wr b 87 (mcells (addUp acc n i) r s rest held) ∧ At wr t 82 (qcells n) ∧ Fr [b] w wr) (fun v _ => 5 - (RowKit.intOf v).toNat)
  case atStart => exact ⟨0, by omega, rfl, B0, T0, F0⟩
  case round =>
    clear B0 T0 F0
    obtain ⟨i, hi, rfl, hB, hT, hF⟩ := hrel
    have hal := addUp_len acc n i (by omega)
    by_cases hli : i < 5
    · have l1 : (i : Int) < 5 := by omega
      have w2 : IntKind.i64.wrap ((i : Int) + 1) = ((i + 1 : Nat) : Int) := by rw [IntWalk.i64_in _ (by omega)]; omega
      have c0 := hB.cell i
      have z0 := hB.frozen i
      have c1 := hT.cell i
      rw [mcells_acc _ _ _ _ _ _ (by omega) hli, addUp_get _ _ _ (by omega) (by omega)] at c0
      rw [qcells_get _ _ (by omega)] at c1
      have hst := addUp_succ acc n i (by omega) (by omega)
      generalize acc.getD i 0 = x at c0 hst
      generalize n.getD i 0 = y at c1 hst
      have hB2 := hB.setCell i (.int .u64 (qd (x + y)))
      rw [mcells_set _ _ _ _ _ _ _ (by omega), hst] at hB2
      have hT2 := hT.setCell_other (a := ⟨b, i, none⟩) (by have := HT.out.2; simp; omega) (.int .u64 (qd (x + y)))
      have F2 := hF.trans (Fr.setCell [b] wr ⟨b, i, none⟩ (.int .u64 (qd (x + y))) (.inl (by simp)))
      clear hst hB hT hal hF
      go_wp2_with fail
      go_region
      go_wp2_with fail
      exact ⟨⟨i + 1, by omega, by simp, hB2, hT2, by first | exact F2.trans (Fr.drew _ _) | exact F2⟩, by simp only [RowKit.intOf]; omega⟩
    · obtain rfl : i = 5 := by omega
      have l1 : ¬ ((5 : Nat) : Int) < 5 := by omega
      have ea : addUp acc n 5 = addL acc n := by unfold addUp; rw [List.take_of_length_le (by rw [addL_len]; omega), List.drop_eq_nil_of_le (by omega), List.append_nil]
      rw [ea] at hB hal
      obtain ⟨A, hA⟩ : ∃ A, A = addL acc n := ⟨_, rfl⟩
      rw [← hA] at hB hal
      have P0 := At.alloc_new wr 82 #[.int .u64 0, .int .u64 0, .int .u64 0, .int .u64 0, .int .u64 0]
      have FP := Fr.alloc [b] wr (.cells #[.int .u64 0, .int .u64 0, .int .u64 0, .int .u64 0, .int .u64 0] 82)
      obtain ⟨p, hp⟩ : ∃ p, p = wr.heap.size := ⟨_, rfl⟩
      rw [← hp] at P0
      have hbp : b ≠ p := by have := hB.lt; omega
      have hwp : w.heap.size ≤ p := by rw [hp]; exact hF.size
      have hB1 : At _ b 87 (mcells A r s rest held) := hB.alloc (.cells #[.int .u64 0, .int .u64 0, .int .u64 0, .int .u64 0, .int .u64 0] 82)
      have F1 := hF.trans FP
      have HA := Lib.hid hA
      clear hA ea hB hT FP hF
      go_wp2_with fail
      rw [← hp]
      change At (wr.alloc _) p 82 (qcells (mulUp A r 0)) at P0
      generalize wr.alloc _ = W2 at P0 hB1 F1 ⊢
      have HP := Lib.hid (And.intro hbp hwp)
      clear hp hbp hwp
      clear wr
      go_loopw [26] (fun v wr => ∃ i : Nat, i ≤ 5 ∧ v = .int .i64 i ∧ At wr b 87 (mcells A r s rest held) ∧ At wr p 82 (qcells (mulUp A r (5 * i))) ∧ Fr [b] w wr) (fun v _ => 5 - (RowKit.intOf v).toNat)
      case atStart => exact ⟨0, by omega, rfl, hB1, P0, F1⟩
      case round =>
        clear hB1 P0 F1
        obtain ⟨i, hi, rfl, hB, hP, hF⟩ := hrel
        by_cases hli : i < 5
        · have l1 : (i : Int) < 5 := by omega
          go_wp2_with fail
          go_loopw [29] (fun v wr => ∃ j : Nat, j ≤ 5 ∧ v = .int .i64 j ∧ At wr b 87 (mcells A r s rest held) ∧ At wr p 82 (qcells (mulUp A r (5 * i + j))) ∧ Fr [b] w wr) (fun v _ => 5 - (RowKit.intOf v).toNat)
          case atStart => exact ⟨0, by omega, rfl, hB, hP, hF⟩
          case round =>
            clear hB hP hF
            obtain ⟨j, hj, rfl, hB, hP, hF⟩ := hrel
            by_cases hlj : j < 5
            · have m1 : (j : Int) < 5 := by omega
              obtain ⟨K, hK⟩ : ∃ K, K = (i + j) % 5 := ⟨_, rfl⟩
              have hK5 : (K : Int) < 5 := by omega
              have w2 : IntKind.i64.wrap ((j : Int) + 1) = ((j + 1 : Nat) : Int) := by rw [IntWalk.i64_in _ (by omega)]; omega
              have w3 : IntKind.i64.wrap ((i : Int) + j) = (i : Int) + j := IntWalk.i64_in _ (by omega)
              have w4 : ∀ t, binOp .rem t (.int .i64 ((i : Int) + j)) (.int .i64 5) = pure (.int .i64 (K : Int)) := by
                intro t
                simp only [binOp, Op.intDiv]
                rw [if_neg (by simp), if_neg (by omega), Int.tmod_eq_emod_of_nonneg (by omega)]
                congr 2; omega
              have cA := hB.cell i
              have cR := hB.cell (5 + j)
              rw [mcells_acc _ _ _ _ _ _ (by omega) hli] at cA
              rw [mcells_r _ _ _ _ _ _ (by omega) hr hlj] at cR
              have cP := hP.cell K
              have zP := hP.frozen K
              have hml := mulUp_len A r (5 * i + j)
              rw [qcells_get _ _ (by omega)] at cP
              have hst : mulUp A r (5 * i + (j + 1)) = (mulUp A r (5 * i + j)).set K ((mulUp A r (5 * i + j)).getD K 0 + prodAt A r i j) := by
                rw [show 5 * i + (j + 1) = 5 * i + j + 1 by omega, mulUp, show (5 * i + j) / 5 = i by omega, show (5 * i + j) % 5 = j by omega, hK]
              generalize (mulUp A r (5 * i + j)).getD K 0 = q at cP hst
              obtain ⟨x, hx⟩ : ∃ x, x = A.getD i 0 := ⟨_, rfl⟩
              obtain ⟨y, hy⟩ : ∃ y, y = r.getD j 0 := ⟨_, rfl⟩
              rw [← hx] at cA
              rw [← hy] at cR
              obtain ⟨z, hz⟩ : ∃ z, z = prodAt A r i j := ⟨_, rfl⟩
              rw [← hz] at hst
              have hP2 := hP.setCell K (.int .u64 (qd (q + z)))
              rw [qcells_set, ← hst] at hP2
              have hB2 := hB.setCell_other (a := ⟨p, K, none⟩) (by have := HP.out.1; simpa using this) (.int .u64 (qd (q + z)))
              have F2 := (Fr.setCell [b, p] wr ⟨p, K, none⟩ (.int .u64 (qd (q + z))) (.inl (by simp)))
              have F3 : Fr [b] w (wr.setCell ⟨p, K, none⟩ (.int .u64 (qd (q + z)))) := (hF.mono (by simp)).trans F2 |>.mono (by
                intro u hu hlt
                have h2 := HP.out.2
                simp at hu
                rcases hu with rfl | rfl
                · simp
                · omega)
              clear F2 hst hP hB hml hF
              by_cases h5 : 5 ≤ i + j
              · have m5 : (5 : Int) ≤ (i : Int) + j := by omega
                have ez : z = x * y * 5 := by rw [hz, hx, hy]; unfold prodAt; rw [if_pos h5]
                have HH := Lib.hid (And.intro hK h5)
                clear hx hy hz hK h5
                subst ez
                go_wp2_with fail
                go_region
                go_wp2_with fail
                exact ⟨⟨j + 1, by omega, by simp, hB2, hP2, F3.trans (Fr.drew _ _)⟩, by simp only [RowKit.intOf]; omega⟩
              · have m5 : ¬ (5 : Int) ≤ (i : Int) + j := by omega
                have ez : z = x * y := by rw [hz, hx, hy]; unfold prodAt; rw [if_neg h5]
                have HH := Lib.hid (And.intro hK h5)
                clear hx hy hz hK h5
                subst ez
                go_wp2_with fail
                go_region
                go_wp2_with fail
                exact ⟨⟨j + 1, by omega, by simp, hB2, hP2, F3.trans (Fr.drew _ _)⟩, by simp only [RowKit.intOf]; omega⟩
            · obtain rfl : j = 5 := by omega
              have m1 : ¬ ((5 : Nat) : Int) < 5 := by omega
              have w2 : IntKind.i64.wrap ((i : Int) + 1) = ((i + 1 : Nat) : Int) := by rw [IntWalk.i64_in _ (by omega)]; omega
              go_wp2_with fail
              exact ⟨⟨i + 1, by omega, by simp, hB, by rw [show 5 * (i + 1) = 5 * i + 5 by omega]; exact hP, hF⟩, by simp only [RowKit.intOf]; omega⟩
        · obtain rfl : i = 5 := by omega
          have l1 : ¬ ((5 : Nat) : Int) < 5 := by omega
          have hbp := HP.out.1
          have hwp := HP.out.2
          have cC := carry_any (mulUp A r 25) (mulUp_len _ _ _) p wr hP
          have hcl : (carryL (mulUp A r 25)).length = 5 := by rw [carryL_len, mulUp_len]
          have hbl : blockL acc r n = carryL (mulUp A r 25) := by rw [blockL, HA.out]
          obtain ⟨C, hC⟩ : ∃ C, C = carryL (mulUp A r 25) := ⟨_, rfl⟩
          rw [← hC] at cC hcl hbl
          have hsz : (Tryd.prog.info? 82).map (·.size) = some (qcells C).toArray.size := by rw [List.size_toArray, qcells_len, hcl]; kernel_rfl
          have HBL := Lib.hid hbl
          have HN := Lib.hid (And.intro hbp hwp)
          clear hbl hC hbp hwp hP
          go_wp2_with (first
            | (go_at_call 74; refine cC.mono ?_; clear cC; rintro e w3 ⟨rfl, hP3, f3⟩; have hB3 := f3.keep hB (by simp; exact HN.out.1))
            | refine wpList_load_row rfl _ _ rfl _ rfl _ _ _ _ hP3.out Tryd.underlying82 rfl hsz ?_
            | refine wpList_store_mid rfl _ _ _ rfl b 0 (qcells C).toArray rfl rfl (mcells_there hB3 (by rw [List.size_toArray, qcells_len, hcl, hal]; omega)) hsz (qcells_one C) ?_
            | fail)
          have s3 := At.setCells (qcells C) 0 _ _ hB3 (by simp [mcells, qcells_len, hcl, hal, ha])
          have es : List.take 0 (mcells A r s rest held) ++ qcells C ++ List.drop (0 + (qcells C).length) (mcells A r s rest held) = mcells C r s rest held := by
            rw [qcells_len, hcl, Nat.zero_add, List.take_zero, List.nil_append]
            unfold mcells
            rw [List.drop_append_of_le_length (by rw [qcells_len, hal]; omega), List.drop_eq_nil_of_le (by rw [qcells_len, hal]; omega), List.nil_append]
          rw [es] at s3
          have F3 : Fr [b] w w3 := (hF.mono (S' := [b, p]) (by simp)).trans (f3.mono (by simp)) |>.mono (by
            intro u hu hlt
            have h2 := HN.out.2
            simp at hu
            rcases hu with rfl | rfl
            · simp
            · omega)
          go_end0
          refine ⟨rfl, ?_, ?_⟩
          · rw [HBL.out]; exact s3
          · exact F3.trans (Fr.setCells (by simp) _ _ _)
end Go.Proofs.YtichgiecohhmgaaDoor
