/- The program's Poly1305: a number brought below p. -/
import Derived.Test.YtichgiecohhmgaaDoorPolyB
namespace Go.Proofs.YtichgiecohhmgaaDoor
open Go.RowKit Go.Lib Go.Joins Base
set_option linter.unusedVariables false
set_option linter.unusedSimpArgs false

theorem num_size (C : List UInt64) (h : C.length = 5) : (Tryd.prog.info? 82).map (·.size) = some (qcells C).toArray.size := by rw [List.size_toArray, qcells_len, h]; kernel_rfl
theorem num_old (C : List UInt64) (h : C.length = 5) : [Value.int .u64 0, Value.int .u64 0, Value.int .u64 0, Value.int .u64 0, Value.int .u64 0].toArray.size = (qcells C).toArray.size := by rw [List.size_toArray, List.size_toArray, qcells_len, h]; rfl
theorem five_of (l : List UInt64) (h : l.length = 5) : ∃ a b c d e, l = [a, b, c, d, e] := by
  match l, h with
  | [a, b, c, d, e], _ => exact ⟨a, b, c, d, e, rfl⟩
set_option maxRecDepth 100000 in
set_option maxHeartbeats 2000000 in
theorem reduced_any (n : List UInt64) (hn : n.length = 5) (w : World) :
    Calls Tryd.prog 57 #[.agg (qcells n).toArray] w fun e w' => e = .returned (.agg (qcells (reducedL n)).toArray) ∧ Fr [] w w' := by
  obtain ⟨g, hg⟩ : ∃ g, g = w.heap.size := ⟨_, rfl⟩
  obtain ⟨z, hz⟩ : ∃ z, z = w.heap.size + 1 := ⟨_, rfl⟩
  obtain ⟨W, hW⟩ : ∃ W, W = (w.alloc (.cells (qcells n).toArray 82)).alloc (.cells #[.int .u64 0, .int .u64 0, .int .u64 0, .int .u64 0, .int .u64 0] 82) := ⟨_, rfl⟩
  have N0 : At W g 82 (qcells n) := by
    have := (At.alloc_new w 82 (qcells n).toArray).alloc (.cells #[.int .u64 0, .int .u64 0, .int .u64 0, .int .u64 0, .int .u64 0] 82)
    rw [← hW, ← hg, List.toList_toArray] at this
    exact this
  have Z0 : At W z 82 (qcells [0, 0, 0, 0, 0]) := by
    have := At.alloc_new (w.alloc (.cells (qcells n).toArray 82)) 82 #[.int .u64 0, .int .u64 0, .int .u64 0, .int .u64 0, .int .u64 0]
    rw [← hW, show (w.alloc (.cells (qcells n).toArray 82)).heap.size = z by rw [hz]; simp] at this
    exact this
  have F0 : Fr [] w W := by rw [hW]; exact (Fr.alloc _ _ _).trans (Fr.alloc _ _ _)
  have hgz : g ≠ z ∧ w.heap.size ≤ g ∧ w.heap.size ≤ z := by omega
  have c1 := fun w' h => carry_any n hn g w' h
  have c2 := fun w' h => carry_any (carryL n) (by rw [carryL_len, hn]) g w' h
  obtain ⟨m, hm⟩ : ∃ m, m = carryL (carryL n) := ⟨_, rfl⟩
  have hml : m.length = 5 := by rw [hm, carryL_len, carryL_len, hn]
  have hrd : reducedL n = if (carryUp (m.set 0 (m.getD 0 0 + 5)) 4).getD 4 0 >>> 26 = 0 then m else (carryUp (m.set 0 (m.getD 0 0 + 5)) 4).set 4 ((carryUp (m.set 0 (m.getD 0 0 + 5)) 4).getD 4 0 &&& 67108863) := by rw [hm]; rfl
  rw [← hm] at c2
  have hsz := num_size m hml
  have HRD := Lib.hid hrd
  have HGZ := Lib.hid hgz
  have HM := Lib.hid hm
  have hne : z ∉ [g] := by simp; omega
  clear hrd hgz hm
  go_enter Tryd.func57, Tryd.ntmps57
  go_upto_region 1 with fail
  rw [← hW, ← hz, ← hg]
  clear hW hz hg
  have mk1 : True := trivial
  go_upto_region 4 with (first
    | (go_at_call 74; clear mk1; refine (c1 _ N0).mono ?_; clear c1; rintro e w1 ⟨rfl, N1, f1⟩; have Z1 := f1.keep Z0 hne)
    | (go_at_call 74; refine (c2 _ N1).mono ?_; clear c2; rintro e w2 ⟨rfl, N2, f2⟩; have Z2 := f2.keep Z1 hne; have T0 := At.alloc_new w2 82 #[.int .u64 0, .int .u64 0, .int .u64 0, .int .u64 0, .int .u64 0])
    | refine wpList_load_row rfl _ _ rfl _ rfl _ _ _ _ N2.out Tryd.underlying82 rfl hsz ?_
    | refine wpList_store_row rfl _ _ _ rfl _ _ rfl rfl _ _ T0.out hsz (num_old m hml) (qcells_one m) ?_
    | fail)
  have T1 := T0.setRow (qcells m).toArray
  rw [List.toList_toArray] at T1
  have FT : Fr [] w2 _ := (Fr.alloc [] w2 (.cells #[.int .u64 0, .int .u64 0, .int .u64 0, .int .u64 0, .int .u64 0] 82)).new (S := [w2.heap.size]) (Fr.setRow [w2.heap.size] _ w2.heap.size (qcells m).toArray (.inl (by simp))) (by simp)
  have N3 := FT.keep N2 (by simp)
  have Z3 := FT.keep Z2 (by simp)
  have hsz2 : w.heap.size ≤ w2.heap.size := Nat.le_trans (Nat.le_trans F0.size f1.size) f2.size
  have hnlt := N2.lt
  have hzlt := Z2.lt
  have FW : Fr [] w _ := (F0.new (S := [g]) (f1.trans f2) (by have := HGZ.out; simp; omega)).trans FT
  change Code.wp _ _ _ _ ((w2.alloc (.cells #[.int .u64 0, .int .u64 0, .int .u64 0, .int .u64 0, .int .u64 0] 82)).setRow w2.heap.size (qcells m).toArray)
  generalize (w2.alloc (.cells #[.int .u64 0, .int .u64 0, .int .u64 0, .int .u64 0, .int .u64 0] 82)).setRow w2.heap.size (qcells m).toArray = W3 at T1 N3 Z3 FW ⊢
  obtain ⟨t, ht⟩ : ∃ t, t = w2.heap.size := ⟨_, rfl⟩
  rw [← ht] at T1 hsz2 hnlt hzlt ⊢
  have HT := Lib.hid (And.intro hsz2 (And.intro hnlt hzlt))
  obtain ⟨q, hq⟩ : ∃ q, q = m.set 0 (m.getD 0 0 + 5) := ⟨_, rfl⟩
  have hql : q.length = 5 := by rw [hq, List.length_set, hml]
  have d0 := T1.cell 0
  have y0 := T1.frozen 0
  rw [qcells_get _ _ (by omega)] at d0
  have hset : (qcells m).set 0 (.int .u64 (qd (m.getD 0 0 + 5))) = qcells q := by rw [qcells_set, hq]
  obtain ⟨v0, hv0⟩ : ∃ v, v = m.getD 0 0 := ⟨_, rfl⟩
  rw [← hv0] at d0 hset
  have T2 := T1.setCell 0 (.int .u64 (qd (v0 + 5)))
  rw [hset] at T2
  have hnt : g ≠ t := by omega
  have hzt : z ≠ t := by omega
  have N4 := N3.setCell_other (a := ⟨t, 0, none⟩) (by simpa using hnt) (.int .u64 (qd (v0 + 5)))
  have Z4 := Z3.setCell_other (a := ⟨t, 0, none⟩) (by simpa using hzt) (.int .u64 (qd (v0 + 5)))
  have F4 := FW.new (S := [t]) (Fr.setCell [t] W3 ⟨t, 0, none⟩ (.int .u64 (qd (v0 + 5))) (.inl (by simp))) (by simp; exact hsz2)
  have HQ := Lib.hid (And.intro hq hv0)
  clear hq hv0 hset T1 N3 Z3 FW FT ht N0 Z0 F0 N1 Z1 f1 N2 Z2 f2 T0 hsz2 hnlt hzlt hne
  clear w1 w2
  go_wp2_with fail
  generalize W3.setCell ⟨t, 0, none⟩ (.int .u64 (qd (v0 + 5))) = W4 at T2 N4 Z4 F4 ⊢
  clear d0 y0 W3
  go_loopw [12] (fun v wr => ∃ i : Nat, i ≤ 4 ∧ v = .int .i64 i ∧ At wr t 82 (qcells (carryUp q i)) ∧ At wr g 82 (qcells m) ∧ At wr z 82 (qcells [0, 0, 0, 0, 0]) ∧ Fr [] w wr) (fun v _ => 4 - (RowKit.intOf v).toNat)
  case atStart => exact ⟨0, by omega, rfl, T2, N4, Z4, F4⟩
  case round =>
    clear T2 N4 Z4 F4
    obtain ⟨i, hi, rfl, hA, hN, hZ, hF⟩ := hrel
    have hcl := carryUp_len q i
    by_cases hli : i < 4
    · have l1 : (i : Int) < 4 := by omega
      have w2 : IntKind.i64.wrap ((i : Int) + 1) = ((i + 1 : Nat) : Int) := by rw [IntWalk.i64_in _ (by omega)]; omega
      have l2 : ((i + 1 : Nat) : Int) < 5 := by omega
      have l3 : (i : Int) < 5 := by omega
      have hst : carryUp q (i + 1) = ((carryUp q i).set (i + 1) ((carryUp q i).getD (i + 1) 0 + (carryUp q i).getD i 0 >>> 26)).set i ((carryUp q i).getD i 0 &&& 67108863) := rfl
      have c0 := hA.cell i
      have c1 := hA.cell (i + 1)
      have z1 := hA.frozen (i + 1)
      rw [qcells_get _ _ (by omega)] at c0 c1
      generalize hx : (carryUp q i).getD i 0 = x at c0 hst
      generalize hy : (carryUp q i).getD (i + 1) 0 = y at c1 hst
      have hA2 := hA.setCell (i + 1) (.int .u64 (qd (y + x >>> 26)))
      have c2 := hA2.cell i
      rw [List.getElem?_set_ne (by omega), qcells_get _ _ (by omega), hx] at c2
      have z2 := hA2.frozen i
      have hA3 := hA2.setCell i (.int .u64 (qd (x &&& 67108863)))
      rw [qcells_set, qcells_set, ← hst] at hA3
      have hN3 := (hN.setCell_other (a := ⟨t, i + 1, none⟩) (by simpa using hnt) (.int .u64 (qd (y + x >>> 26)))).setCell_other (a := ⟨t, i, none⟩) (by simpa using hnt) (.int .u64 (qd (x &&& 67108863)))
      have hZ3 := (hZ.setCell_other (a := ⟨t, i + 1, none⟩) (by simpa using hzt) (.int .u64 (qd (y + x >>> 26)))).setCell_other (a := ⟨t, i, none⟩) (by simpa using hzt) (.int .u64 (qd (x &&& 67108863)))
      have F3 := hF.new (S := [t]) ((Fr.setCell [t] wr ⟨t, i + 1, none⟩ (.int .u64 (qd (y + x >>> 26))) (.inl (by simp))).trans (Fr.setCell [t] _ ⟨t, i, none⟩ (.int .u64 (qd (x &&& 67108863))) (.inl (by simp)))) (by have := HT.out.1; simp; exact this)
      clear hx hy hst hcl hA hA2 hN hZ hF
      go_wp2_with fail
      go_region
      go_wp2_with fail
      exact ⟨⟨i + 1, by omega, by simp, hA3, hN3, hZ3, by first | exact F3 | exact F3.trans (Fr.drew _ _) | exact F3.trans ((Fr.drew _ _).trans (Fr.drew _ _))⟩, by simp only [RowKit.intOf]; omega⟩
    · obtain rfl : i = 4 := by omega
      have l1 : ¬ ((4 : Nat) : Int) < 4 := by omega
      have c4 := hA.cell 4
      have z4 := hA.frozen 4
      rw [qcells_get _ _ (by omega)] at c4
      obtain ⟨T, hT⟩ : ∃ T, T = carryUp q 4 := ⟨_, rfl⟩
      rw [← hT] at hA c4 hcl
      obtain ⟨x, hx⟩ : ∃ x, x = T.getD 4 0 := ⟨_, rfl⟩
      rw [← hx] at c4
      have hrd : reducedL n = if x >>> 26 = 0 then m else T.set 4 (x &&& 67108863) := by rw [HRD.out, ← HQ.out.1, ← hT, ← hx]
      have hA2 := hA.setCell 4 (.int .u64 (qd (x &&& 67108863)))
      rw [qcells_set] at hA2
      have hZ2 := hZ.setCell_other (a := ⟨t, 4, none⟩) (by simpa using hzt) (.int .u64 (qd (x &&& 67108863)))
      have F5 := Fr.setCell [t] wr ⟨t, 4, none⟩ (.int .u64 (qd (x &&& 67108863))) (.inl (by simp))
      have hszT := num_size (T.set 4 (x &&& 67108863)) (by rw [List.length_set]; omega)
      have hHT := HT.out.1
      have hzw := HGZ.out.2.2
      have HX := Lib.hid hrd
      clear hrd hx hT
      by_cases h0 : x >>> 26 = 0
      · have l2 : qd (x >>> 26) = 0 := by rw [h0]; rfl
        have H0 := Lib.hid h0
        clear h0
        go_wp2_with (first
          | refine wpList_load_row rfl _ _ rfl _ rfl _ _ _ _ hN.out Tryd.underlying82 rfl hsz ?_
          | refine wpList_store_row rfl _ _ _ rfl _ _ rfl rfl _ _ hZ.out hsz (num_old m hml) (qcells_one m) ?_
          | fail)
        have A1 := hZ.setRow (qcells m).toArray
        rw [List.toList_toArray] at A1
        rw [HX.out, if_pos H0.out]
        refine ⟨rfl, _, ?_, rfl, hF.new (S := [z]) (Fr.setRow [z] _ _ _ (.inl (by simp))) (by simp; exact hzw)⟩
        refine results_cell_row (p := 2) (ty := 82) (by rfl) _ _ z 82 _ (0, 0) _ ?_ A1.out Tryd.underlying82 rfl hsz
        simp only [Act.put, List.setIfInBounds_toArray, List.set_cons_zero, List.set_cons_succ, Array.getD_eq_getD_getElem?, List.getElem?_toArray, List.getElem?_cons_succ, List.getElem?_cons_zero, Option.getD_some]
      · have l2 : ¬ qd (x >>> 26) = 0 := fun h => h0 (qd_inj h)
        have H0 := Lib.hid h0
        clear h0
        go_wp2_with (first
          | refine wpList_load_row rfl _ _ rfl _ rfl _ _ _ _ hA2.out Tryd.underlying82 rfl hszT ?_
          | refine wpList_store_row rfl _ _ _ rfl _ _ rfl rfl _ _ hZ2.out hszT (num_old _ (by rw [List.length_set]; omega)) (qcells_one _) ?_
          | fail)
        have A1 := hZ2.setRow (qcells (T.set 4 (x &&& 67108863))).toArray
        rw [List.toList_toArray] at A1
        rw [HX.out, if_neg H0.out]
        refine ⟨rfl, _, ?_, rfl, (hF.new (S := [t]) F5 (by simp; exact hHT)).new (S := [z]) (Fr.setRow [z] _ _ _ (.inl (by simp))) (by simp; exact hzw)⟩
        refine results_cell_row (p := 2) (ty := 82) (by rfl) _ _ z 82 _ (0, 0) _ ?_ A1.out Tryd.underlying82 rfl hszT
        simp only [Act.put, List.setIfInBounds_toArray, List.set_cons_zero, List.set_cons_succ, Array.getD_eq_getD_getElem?, List.getElem?_toArray, List.getElem?_cons_succ, List.getElem?_cons_zero, Option.getD_some]
end Go.Proofs.YtichgiecohhmgaaDoor
