/- The program's Poly1305: the sum. (mkpsum.py wrote it.) -/
import Derived.Test.YtichgiecohhmgaaDoorPolyE
namespace Go.Proofs.YtichgiecohhmgaaDoor
open Go.RowKit Go.Lib Go.Joins Base
set_option linter.unusedVariables false
set_option linter.unusedSimpArgs false

theorem mcells_len (acc r s : List UInt64) (rest : List UInt8) (held : Nat) (ha : acc.length = 5) (hr : r.length = 5) (hs : s.length = 2) (h : rest.length = 16) : (mcells acc r s rest held).length = 29 := by
  simp [mcells, qcells_len, byteCells_length, ha, hr, hs, h]
theorem mcells_one (acc r s : List UInt64) (rest : List UInt8) (held : Nat) : (mcells acc r s rest held).toArray.all (·.oneCell') = true := all_oneCell_toArray (by
  intro v hv
  simp only [mcells, qcells, byteCells, List.mem_append, List.mem_map, List.mem_singleton] at hv
  rcases hv with ⟨x, _, rfl⟩ | ⟨x, _, rfl⟩ | ⟨x, _, rfl⟩ | ⟨x, _, rfl⟩ | rfl <;> rfl)
theorem mac_acc {w : World} {b : Nat} {acc r s : List UInt64} {rest : List UInt8} {held : Nat} (h : At w b 87 (mcells acc r s rest held)) : w.rangeAt b 0 (qcells acc) := by
  intro j v hj
  have hl : j < (qcells acc).length := (List.getElem?_eq_some_iff.1 hj).1
  rw [Nat.zero_add, h.cell, mcells, List.getElem?_append_left hl]
  exact hj
theorem mcells_rest_set (acc r s : List UInt64) (rest : List UInt8) (held q : Nat) (x : UInt8) (ha : acc.length = 5) (hr : r.length = 5) (hs : s.length = 2) (hq : q < rest.length) : (mcells acc r s rest held).set (12 + q) (.int .u8 (bt x)) = mcells acc r s (rest.set q x) held := by
  have hh := mhead_len acc r s ha hr hs
  rw [mcells_eq, List.set_append_right _ _ (by omega), hh, Nat.add_sub_cancel_left, List.set_append_left _ _ (by rw [byteCells_length]; exact hq), byteCells_setD, mcells_eq]
theorem mcells_rest_get (acc r s : List UInt64) (rest : List UInt8) (held q : Nat) (ha : acc.length = 5) (hr : r.length = 5) (hs : s.length = 2) (hq : q < rest.length) : (mcells acc r s rest held)[12 + q]? = some (.int .u8 (bt (rest.getD q 0))) := by
  have hh := mhead_len acc r s ha hr hs
  rw [mcells_eq, List.getElem?_append_right (by omega), hh, Nat.add_sub_cancel_left, List.getElem?_append_left (by rw [byteCells_length]; exact hq), byteCells_getD _ _ hq]
theorem num_range {w : World} {g : Nat} {T : TypeId} {l : List UInt64} (h : At w g T (qcells l)) (i : Nat) (x : UInt64) (hx : l[i]? = some x) : w.cell? ⟨g, i, none⟩ = some (.int .u64 (qd x)) := by
  rw [h.cell]; unfold qcells; rw [List.getElem?_map, hx]; rfl
/-- The first i bytes of each half laid down. -/
def outUp (x y : UInt64) (i : Nat) : List UInt8 := (bytes8 x).take i ++ zerosB (8 - i) ++ ((bytes8 y).take i ++ zerosB (8 - i))
theorem outUp_len (x y : UInt64) (i : Nat) (h : i ≤ 8) : (outUp x y i).length = 16 := by simp [outUp, bytes8_len, zerosB]; omega
theorem outUp_step (x y : UInt64) : ∀ i, i < 8 → ((outUp x y i).set i (x >>> UInt64.ofNat (8 * i)).toUInt8).set (8 + i) (y >>> UInt64.ofNat (8 * i)).toUInt8 = outUp x y (i + 1)
  | 0, _ => rfl
  | 1, _ => rfl
  | 2, _ => rfl
  | 3, _ => rfl
  | 4, _ => rfl
  | 5, _ => rfl
  | 6, _ => rfl
  | 7, _ => rfl
  | n + 8, h => by omega
theorem outUp_end (x y : UInt64) : outUp x y 8 = bytes8 x ++ bytes8 y := by
  unfold outUp
  rw [List.take_of_length_le (by rw [bytes8_len]; omega), List.take_of_length_le (by rw [bytes8_len]; omega)]
  simp [zerosB]
theorem qd_lt_iff (x y : UInt64) : qd x < qd y ↔ x < y := by
  unfold qd; rw [UInt64.lt_iff_toNat_lt]; omega
theorem add1 (t : TypeId) (a : UInt64) : binOp .add t (.int .u64 (qd a)) (.int .u64 1) = pure (.int .u64 (qd (a + 1))) := binOp_add64 t a 1
theorem add0 (t : TypeId) (a : UInt64) : binOp .add t (.int .u64 (qd a)) (.int .u64 0) = pure (.int .u64 (qd (a + 0))) := binOp_add64 t a 0
/-- The bytes that wait, the mark and the zeros. -/
theorem rest_end (rest T : List UInt8) (h : rest.take (T.length % 16) = restL T) (hl : rest.length = 16) : (rest.take (T.length % 16) ++ zerosB (16 - T.length % 16)).set (T.length % 16) 1 = restL T ++ 1 :: List.replicate (15 - (restL T).length) 0 := by
  have hr := restL_len T
  rw [h, List.set_append_right _ _ (by omega), hr, Nat.sub_self, show 16 - T.length % 16 = (15 - T.length % 16) + 1 by omega]
  simp [zerosB, List.replicate_succ]

set_option maxRecDepth 100000 in
set_option maxHeartbeats 4000000 in
theorem psum_any (K T : List UInt8) (b : Nat) (w : World) (h : Macs w b K T) :
    Calls Tryd.prog 37 #[.pointer (some ⟨b, 0, none⟩)] w fun e w' => e = .returned (.string ⟨(tagL K T).toArray⟩) ∧ Fr [] w w' := by
  obtain ⟨rest, hrl, hrt, hA⟩ := h
  obtain ⟨q, hq⟩ : ∃ q, q = T.length % 16 := ⟨_, rfl⟩
  obtain ⟨R, hR⟩ : ∃ R, R = rOf K := ⟨_, rfl⟩
  obtain ⟨x0, hx0⟩ : ∃ x, x = s0Of K := ⟨_, rfl⟩
  obtain ⟨x1, hx1⟩ : ∃ x, x = s1Of K := ⟨_, rfl⟩
  obtain ⟨acc, hacc⟩ : ∃ a, a = accOf (rOf K) T := ⟨_, rfl⟩
  obtain ⟨L, hL⟩ : ∃ l, l = lastL (rOf K) T := ⟨_, rfl⟩
  have hRl : R.length = 5 := by rw [hR]; rfl
  have hal : acc.length = 5 := by rw [hacc]; exact accUp_len _ _ _
  have hLl : L.length = 5 := by rw [hL]; exact lastL_len _ _
  have htag : tagL K T = outL (reducedL L) x0 x1 := by rw [hL, hx0, hx1]; rfl
  rw [← hq, ← hR, ← hx0, ← hx1, hR, ← hacc, ← hR] at hA
  have hq16 : q < 16 := by omega
  have hend := rest_end rest T hrt hrl
  have hrT := restL_len T
  rw [← hq] at hend hrT
  obtain ⟨N, hN⟩ : ∃ n, n = reducedL L := ⟨_, rfl⟩
  have hNl : N.length = 5 := by rw [hN, reducedL_len]; exact hLl
  have cR := reduced_any L hLl
  rw [← hN] at htag cR
  obtain ⟨n0, n1, n2, n3, n4, rfl⟩ := five_of N hNl
  have hout : ∀ low high sum, low = n0 ||| n1 <<< 26 ||| n2 <<< 52 → high = n2 >>> 12 ||| n3 <<< 14 ||| n4 <<< 40 → sum = low + x0 → outL [n0, n1, n2, n3, n4] x0 x1 = bytes8 sum ++ bytes8 (high + (x1 + if sum < low then 1 else 0)) := by
    rintro low high sum rfl rfl rfl; rfl
  have hszM : (Tryd.prog.info? 87).map (·.size) = some (mcells acc R [x0, x1] rest q).toArray.size := by rw [List.size_toArray, mcells_len _ _ _ _ _ hal hRl rfl hrl]; kernel_rfl
  have hszL := num_size L hLl
  rw [List.size_toArray] at hszL
  have hszN := num_size [n0, n1, n2, n3, n4] rfl
  obtain ⟨E, hE⟩ : ∃ e, e = w.heap.size := ⟨_, rfl⟩
  have E0 := At.alloc_new w 87 (mcells [0, 0, 0, 0, 0] [0, 0, 0, 0, 0] [0, 0] (zerosB 16) 0).toArray
  have hold : (mcells [0, 0, 0, 0, 0] [0, 0, 0, 0, 0] [0, 0] (zerosB 16) 0).toArray.size = (mcells acc R [x0, x1] rest q).toArray.size := by rw [List.size_toArray, List.size_toArray, mcells_len _ _ _ _ _ hal hRl rfl hrl]; rfl
  have hone := mcells_one acc R [x0, x1] rest q
  rw [htag]
  have HQ := Lib.hid (And.intro hq (And.intro hR (And.intro hacc (And.intro hL (And.intro hend (And.intro hrT hE))))))
  have HT := Lib.hid hN
  have c28 := hA.cell 28
  rw [mcells28 _ _ _ _ _ hal hRl rfl hrl] at c28
  clear hq hR hx0 hx1 hacc hL hend hrT hrt hN htag hE c28
  by_cases hq0 : q = 0
  · have HQ0 := Lib.hid hq0
    clear hq0
    go_enter Tryd.func37, Tryd.ntmps37
    go_upto_region 4 with (first
      | refine wpList_load_row rfl _ _ rfl _ rfl _ _ _ _ hA.out Tryd.underlying87 rfl hszM ?_
      | refine wpList_store_row rfl _ _ _ rfl _ _ rfl rfl _ _ E0.out hszM hold hone ?_
      | fail)
    have E1 := E0.setRow (mcells acc R [x0, x1] rest q).toArray
    rw [List.toList_toArray] at E1
    have F1 := (Fr.alloc [] w (.cells (mcells [0, 0, 0, 0, 0] [0, 0, 0, 0, 0] [0, 0] (zerosB 16) 0).toArray 87)).new (S := [w.heap.size]) (Fr.setRow [w.heap.size] _ w.heap.size (mcells acc R [x0, x1] rest q).toArray (.inl (by simp))) (by simp)
    have B1 := F1.keep hA (by simp)
    change Code.wp _ _ _ _ ((w.alloc (.cells (mcells [0, 0, 0, 0, 0] [0, 0, 0, 0, 0] [0, 0] (zerosB 16) 0).toArray 87)).setRow w.heap.size (mcells acc R [x0, x1] rest q).toArray)
    generalize (w.alloc (.cells (mcells [0, 0, 0, 0, 0] [0, 0, 0, 0, 0] [0, 0] (zerosB 16) 0).toArray 87)).setRow w.heap.size (mcells acc R [x0, x1] rest q).toArray = W1 at E1 F1 B1 ⊢
    have hE := HQ.out.2.2.2.2.2.2
    rw [← hE] at E1 ⊢
    have hEw : w.heap.size ≤ E := by omega
    have hbE : b ≠ E := by have := hA.lt; omega
    have HE := Lib.hid (And.intro hEw hbE)
    clear hE hEw hbE E0
    have e28 := E1.cell 28
    rw [mcells28 _ _ _ _ _ hal hRl rfl hrl] at e28

    have hq0 := HQ0.out
    have m1 : ¬ (0 : Int) < (q : Int) := by omega
    have hLa : L = acc := by
      obtain ⟨hq, hR, hacc, hL, hend, hrT, _⟩ := HQ.out
      rw [hL, hacc]
      unfold lastL
      rw [if_pos (List.eq_nil_of_length_eq_zero (by omega))]
    have E5 : At W1 E 87 (mcells L R [x0, x1] rest q) := by rw [hLa]; exact E1
    have B5 := B1
    have FW := F1
    clear hLa E1 B1 F1 hA hszM hold hone hq0
    go_upto_region 8 with fail
    clear e28

    go_upto_region 9 with (first
      | refine wpList_load_mid rfl _ _ rfl E 0 rfl _ _ (mac_acc E5) Tryd.underlying82 rfl hszL ?_
      | (go_at_call 57; refine (cR _).mono ?_; clear cR; rintro e w6 ⟨rfl, f6⟩; have N0 := At.alloc_new w6 82 #[.int .u64 0, .int .u64 0, .int .u64 0, .int .u64 0, .int .u64 0])
      | refine wpList_store_row rfl _ _ _ rfl _ _ rfl rfl _ _ N0.out hszN rfl (qcells_one _) ?_
      | fail)
    have N1 := N0.setRow (qcells [n0, n1, n2, n3, n4]).toArray
    rw [List.toList_toArray] at N1
    have FN := (Fr.alloc [] w6 (.cells #[.int .u64 0, .int .u64 0, .int .u64 0, .int .u64 0, .int .u64 0] 82)).new (S := [w6.heap.size]) (Fr.setRow [w6.heap.size] _ w6.heap.size (qcells [n0, n1, n2, n3, n4]).toArray (.inl (by simp))) (by simp)
    have FW6 := (FW.trans f6).trans FN
    have B6 := (f6.trans FN).keep B5 (by simp)
    change Code.wp _ _ _ _ ((w6.alloc (.cells #[.int .u64 0, .int .u64 0, .int .u64 0, .int .u64 0, .int .u64 0] 82)).setRow w6.heap.size (qcells [n0, n1, n2, n3, n4]).toArray)
    generalize (w6.alloc (.cells #[.int .u64 0, .int .u64 0, .int .u64 0, .int .u64 0, .int .u64 0] 82)).setRow w6.heap.size (qcells [n0, n1, n2, n3, n4]).toArray = W6 at N1 FW6 B6 ⊢
    generalize w6.heap.size = g at N1 ⊢
    have d0 := num_range N1 0 n0 rfl
    have d1 := num_range N1 1 n1 rfl
    have d2 := num_range N1 2 n2 rfl
    have d3 := num_range N1 3 n3 rfl
    have d4 := num_range N1 4 n4 rfl
    have r10 := B6.cell 10
    have r11 := B6.cell 11
    rw [mc_get10 _ _ _ _ _ _ hal hRl] at r10
    rw [mc_get11 _ _ _ _ _ _ hal hRl] at r11
    have r11' : ∀ ob, (W6.alloc ob).cell? ⟨b, 11, none⟩ = some (.int .u64 (qd x1)) := fun ob => ((B6.alloc ob).cell 11).trans (mc_get11 _ _ _ _ _ _ hal hRl)
    clear FN FW E5 B5 N0 f6
    go_upto_region 11 with fail
    obtain ⟨low, hlow⟩ : ∃ l, l = n0 ||| n1 <<< 26 ||| n2 <<< 52 := ⟨_, rfl⟩
    obtain ⟨high, hhigh⟩ : ∃ l, l = n2 >>> 12 ||| n3 <<< 14 ||| n4 <<< 40 := ⟨_, rfl⟩
    rw [← hlow, ← hhigh]
    obtain ⟨sum, hsum⟩ : ∃ s, s = low + x0 := ⟨_, rfl⟩
    have hsum' : low + x0 = sum := hsum.symm
    have HO := Lib.hid (hout low high sum hlow hhigh hsum)
    clear hout hlow hhigh hsum d0 d1 d2 d3 d4 N1
    go_upto_region 13 with fail
    try rw [hsum']
    clear hsum'
    have ad1 := add1
    have ad0 := add0
    by_cases hlt : sum < low
    · have l1 : qd sum < qd low := (qd_lt_iff _ _).2 hlt
      go_upto_region 17 with fail
      have hout2 : outL [n0, n1, n2, n3, n4] x0 x1 = bytes8 sum ++ bytes8 (high + (x1 + 1)) := by rw [HO.out, if_pos hlt]
      have HO2 := Lib.hid hout2
      clear hout2 hlt
      obtain ⟨hi2, hhi2⟩ : ∃ h, h = high + (x1 + 1) := ⟨_, rfl⟩
      rw [← hhi2] at HO2 ⊢
      have O0 := At.alloc_new W6 77 (byteCells (outUp sum hi2 0)).toArray
      rw [List.toList_toArray] at O0
      have FO := FW6.trans (Fr.alloc [] W6 (.cells (byteCells (outUp sum hi2 0)).toArray 77))
      have hwo : w.heap.size ≤ W6.heap.size := FW6.size
      change Code.wp _ _ _ _ (W6.alloc (.cells (byteCells (outUp sum hi2 0)).toArray 77))
      generalize W6.alloc (.cells (byteCells (outUp sum hi2 0)).toArray 77) = W7 at O0 FO ⊢
      generalize W6.heap.size = o at O0 hwo ⊢
      have HW := Lib.hid hwo
      clear hhi2 hwo r10 r11 r11'
      go_wp2_with fail
      go_loopw [73] (fun v wr => ∃ i : Nat, i ≤ 8 ∧ v = .int .i64 i ∧ At wr o 77 (byteCells (outUp sum hi2 i)) ∧ Fr [] w wr) (fun v _ => 8 - (RowKit.intOf v).toNat)
      case atStart => exact ⟨0, by omega, rfl, O0, FO⟩
      case round =>
        clear O0 FO
        obtain ⟨i, hi, rfl, hO, hF⟩ := hrel
        have hol := outUp_len sum hi2 i hi
        by_cases hli : i < 8
        · have l1 : (i : Int) < 8 := by omega
          have w1 : IntKind.i64.wrap (8 * (i : Int)) = ((8 * i : Nat) : Int) := by rw [IntWalk.i64_in _ (by omega)]; omega
          have w2 : IntKind.i64.wrap ((i : Int) + 1) = ((i + 1 : Nat) : Int) := by rw [IntWalk.i64_in _ (by omega)]; omega
          have w3 : IntKind.i64.wrap (8 + (i : Int)) = ((8 + i : Nat) : Int) := by rw [IntWalk.i64_in _ (by omega)]; omega
          have l2 : (i : Int) < 16 := by omega
          have l3 : ((8 + i : Nat) : Int) < 16 := by omega
          have hs1 := shr64_div sum (8 * i) (by omega)
          have hs2 := shr64_div hi2 (8 * i) (by omega)
          have hst := outUp_step sum hi2 i hli
          have ci := hO.cell i
          have zi := hO.frozen i
          rw [byteCells_getD _ _ (by omega)] at ci
          generalize (outUp sum hi2 i).getD i 0 = old1 at ci
          generalize (sum >>> UInt64.ofNat (8 * i)) = y1 at hs1 hst
          generalize (hi2 >>> UInt64.ofNat (8 * i)) = y2 at hs2 hst
          have hO2 := hO.setCell i (.int .u8 (bt y1.toUInt8))
          have cj := hO2.cell (8 + i)
          have zj := hO2.frozen (8 + i)
          rw [List.getElem?_set_ne (by omega), byteCells_getD _ _ (by omega)] at cj
          generalize (outUp sum hi2 i).getD (8 + i) 0 = old2 at cj
          have hO3 := hO2.setCell (8 + i) (.int .u8 (bt y2.toUInt8))
          rw [byteCells_setD, byteCells_setD, hst] at hO3
          have F3 := hF.new (S := [o]) ((Fr.setCell [o] wr ⟨o, i, none⟩ (.int .u8 (bt y1.toUInt8)) (.inl (by simp))).trans (Fr.setCell [o] _ ⟨o, 8 + i, none⟩ (.int .u8 (bt y2.toUInt8)) (.inl (by simp)))) (by simp; exact HW.out)
          clear hst hol hO hO2 hF
          go_wp2_with fail
          go_region
          go_wp2_with fail
          exact ⟨⟨i + 1, by omega, by simp, hO3, F3.trans (Fr.drew _ _)⟩, by simp only [RowKit.intOf]; omega⟩
        · obtain rfl : i = 8 := by omega
          have l1 : ¬ ((8 : Nat) : Int) < 8 := by omega
          rw [outUp_end] at hO
          have hcv := fun c => run_strB (P := Tryd.prog) Tryd.underlying35 Tryd.underlying5 Tryd.underlying9 wr o 0 c _ (bytes8 sum ++ bytes8 hi2) [] [] (by rw [List.nil_append, List.append_nil]; exact hO) rfl 16 (by simp [bytes8_len])
          go_wp2_with fail
          go_ret
          rw [HO2.out]
          exact ⟨rfl, hF⟩
    · have l1 : ¬ qd sum < qd low := fun h => hlt ((qd_lt_iff _ _).1 h)
      go_upto_region 17 with fail
      have hout2 : outL [n0, n1, n2, n3, n4] x0 x1 = bytes8 sum ++ bytes8 (high + x1) := by rw [HO.out, if_neg hlt, UInt64.add_zero]
      have HO2 := Lib.hid hout2
      clear hout2 hlt
      obtain ⟨hi2, hhi2⟩ : ∃ h, h = high + x1 := ⟨_, rfl⟩
      rw [← hhi2] at HO2 ⊢
      have O0 := At.alloc_new W6 77 (byteCells (outUp sum hi2 0)).toArray
      rw [List.toList_toArray] at O0
      have FO := FW6.trans (Fr.alloc [] W6 (.cells (byteCells (outUp sum hi2 0)).toArray 77))
      have hwo : w.heap.size ≤ W6.heap.size := FW6.size
      change Code.wp _ _ _ _ (W6.alloc (.cells (byteCells (outUp sum hi2 0)).toArray 77))
      generalize W6.alloc (.cells (byteCells (outUp sum hi2 0)).toArray 77) = W7 at O0 FO ⊢
      generalize W6.heap.size = o at O0 hwo ⊢
      have HW := Lib.hid hwo
      clear hhi2 hwo r10 r11 r11'
      go_wp2_with fail
      go_loopw [73] (fun v wr => ∃ i : Nat, i ≤ 8 ∧ v = .int .i64 i ∧ At wr o 77 (byteCells (outUp sum hi2 i)) ∧ Fr [] w wr) (fun v _ => 8 - (RowKit.intOf v).toNat)
      case atStart => exact ⟨0, by omega, rfl, O0, FO⟩
      case round =>
        clear O0 FO
        obtain ⟨i, hi, rfl, hO, hF⟩ := hrel
        have hol := outUp_len sum hi2 i hi
        by_cases hli : i < 8
        · have l1 : (i : Int) < 8 := by omega
          have w1 : IntKind.i64.wrap (8 * (i : Int)) = ((8 * i : Nat) : Int) := by rw [IntWalk.i64_in _ (by omega)]; omega
          have w2 : IntKind.i64.wrap ((i : Int) + 1) = ((i + 1 : Nat) : Int) := by rw [IntWalk.i64_in _ (by omega)]; omega
          have w3 : IntKind.i64.wrap (8 + (i : Int)) = ((8 + i : Nat) : Int) := by rw [IntWalk.i64_in _ (by omega)]; omega
          have l2 : (i : Int) < 16 := by omega
          have l3 : ((8 + i : Nat) : Int) < 16 := by omega
          have hs1 := shr64_div sum (8 * i) (by omega)
          have hs2 := shr64_div hi2 (8 * i) (by omega)
          have hst := outUp_step sum hi2 i hli
          have ci := hO.cell i
          have zi := hO.frozen i
          rw [byteCells_getD _ _ (by omega)] at ci
          generalize (outUp sum hi2 i).getD i 0 = old1 at ci
          generalize (sum >>> UInt64.ofNat (8 * i)) = y1 at hs1 hst
          generalize (hi2 >>> UInt64.ofNat (8 * i)) = y2 at hs2 hst
          have hO2 := hO.setCell i (.int .u8 (bt y1.toUInt8))
          have cj := hO2.cell (8 + i)
          have zj := hO2.frozen (8 + i)
          rw [List.getElem?_set_ne (by omega), byteCells_getD _ _ (by omega)] at cj
          generalize (outUp sum hi2 i).getD (8 + i) 0 = old2 at cj
          have hO3 := hO2.setCell (8 + i) (.int .u8 (bt y2.toUInt8))
          rw [byteCells_setD, byteCells_setD, hst] at hO3
          have F3 := hF.new (S := [o]) ((Fr.setCell [o] wr ⟨o, i, none⟩ (.int .u8 (bt y1.toUInt8)) (.inl (by simp))).trans (Fr.setCell [o] _ ⟨o, 8 + i, none⟩ (.int .u8 (bt y2.toUInt8)) (.inl (by simp)))) (by simp; exact HW.out)
          clear hst hol hO hO2 hF
          go_wp2_with fail
          go_region
          go_wp2_with fail
          exact ⟨⟨i + 1, by omega, by simp, hO3, F3.trans (Fr.drew _ _)⟩, by simp only [RowKit.intOf]; omega⟩
        · obtain rfl : i = 8 := by omega
          have l1 : ¬ ((8 : Nat) : Int) < 8 := by omega
          rw [outUp_end] at hO
          have hcv := fun c => run_strB (P := Tryd.prog) Tryd.underlying35 Tryd.underlying5 Tryd.underlying9 wr o 0 c _ (bytes8 sum ++ bytes8 hi2) [] [] (by rw [List.nil_append, List.append_nil]; exact hO) rfl 16 (by simp [bytes8_len])
          go_wp2_with fail
          go_ret
          rw [HO2.out]
          exact ⟨rfl, hF⟩
  · have HQ0 := Lib.hid hq0
    clear hq0
    go_enter Tryd.func37, Tryd.ntmps37
    go_upto_region 4 with (first
      | refine wpList_load_row rfl _ _ rfl _ rfl _ _ _ _ hA.out Tryd.underlying87 rfl hszM ?_
      | refine wpList_store_row rfl _ _ _ rfl _ _ rfl rfl _ _ E0.out hszM hold hone ?_
      | fail)
    have E1 := E0.setRow (mcells acc R [x0, x1] rest q).toArray
    rw [List.toList_toArray] at E1
    have F1 := (Fr.alloc [] w (.cells (mcells [0, 0, 0, 0, 0] [0, 0, 0, 0, 0] [0, 0] (zerosB 16) 0).toArray 87)).new (S := [w.heap.size]) (Fr.setRow [w.heap.size] _ w.heap.size (mcells acc R [x0, x1] rest q).toArray (.inl (by simp))) (by simp)
    have B1 := F1.keep hA (by simp)
    change Code.wp _ _ _ _ ((w.alloc (.cells (mcells [0, 0, 0, 0, 0] [0, 0, 0, 0, 0] [0, 0] (zerosB 16) 0).toArray 87)).setRow w.heap.size (mcells acc R [x0, x1] rest q).toArray)
    generalize (w.alloc (.cells (mcells [0, 0, 0, 0, 0] [0, 0, 0, 0, 0] [0, 0] (zerosB 16) 0).toArray 87)).setRow w.heap.size (mcells acc R [x0, x1] rest q).toArray = W1 at E1 F1 B1 ⊢
    have hE := HQ.out.2.2.2.2.2.2
    rw [← hE] at E1 ⊢
    have hEw : w.heap.size ≤ E := by omega
    have hbE : b ≠ E := by have := hA.lt; omega
    have HE := Lib.hid (And.intro hEw hbE)
    clear hE hEw hbE E0
    have e28 := E1.cell 28
    rw [mcells28 _ _ _ _ _ hal hRl rfl hrl] at e28

    have hq0 := HQ0.out
    have m1 : (0 : Int) < (q : Int) := by omega
    have k1 : (q : Int) ≤ 16 := by omega
    have k3 : ¬ 16 = q := by omega
    have m2 : (q : Int) < 16 := by omega
    have hzb := fun w => (Tryd.zeroValue5 w)
    have E2 := E1.setRow (mcells acc R [x0, x1] (rest.take q ++ zerosB (16 - q)) q).toArray
    rw [List.toList_toArray] at E2
    have hcl : ∀ ty c, (Builtin.clear_ #[35] ty #[.slice (some ⟨E, 12 + q, none⟩) (16 - q) c]).run Tryd.prog W1 = .ok (.tuple #[]) (W1.setRow E (mcells acc R [x0, x1] (rest.take q ++ zerosB (16 - q)) q).toArray) := fun ty c => by
      have := run_clearB (P := Tryd.prog) Tryd.underlying35 hzb ty W1 E (12 + q) (16 - q) c _ _ E1 (by rw [mcells_len _ _ _ _ _ hal hRl rfl hrl]; omega)
      have e := mcells_copy acc R [x0, x1] rest (zerosB (16 - q)) q q hal hRl rfl hrl (by simp [zerosB]; omega)
      rw [show (zerosB (16 - q)).length = 16 - q by simp [zerosB], show q + (16 - q) = 16 by omega, List.drop_eq_nil_of_le (by omega : rest.length ≤ 16), List.append_nil] at e
      rw [this, e]
    have hr2l : (rest.take q ++ zerosB (16 - q)).length = 16 := by simp [zerosB]; omega
    have F2 := Fr.setRow [E] W1 E (mcells acc R [x0, x1] (rest.take q ++ zerosB (16 - q)) q).toArray (.inl (by simp))
    have B2 := F2.keep B1 (by simp; exact HE.out.2)
    obtain ⟨r2, hr2⟩ : ∃ r, r = rest.take q ++ zerosB (16 - q) := ⟨_, rfl⟩
    rw [← hr2] at E2 hcl hr2l F2 B2
    have HR2 := Lib.hid hr2
    clear hr2 hzb
    go_upto_region 6 with fail
    generalize W1.setRow E (mcells acc R [x0, x1] r2 q).toArray = W2 at E2 F2 B2 ⊢
    have g28 := E2.cell 28
    rw [mcells28 _ _ _ _ _ hal hRl rfl hr2l] at g28
    have gq := E2.cell (12 + q)
    have zq := E2.frozen (12 + q)
    rw [mcells_rest_get _ _ _ _ _ _ hal hRl rfl (by omega)] at gq
    generalize r2.getD q 0 = old at gq
    have E3 := E2.setCell (12 + q) (.int .u8 (bt 1))
    rw [mcells_rest_set _ _ _ _ _ _ _ hal hRl rfl (by omega)] at E3
    have b1 : (.int .u8 (bt 1) : Value) = .int .u8 1 := rfl
    rw [b1] at E3
    have F3 := F2.trans (Fr.setCell [E] W2 ⟨E, 12 + q, none⟩ (.int .u8 1) (.inl (by simp)))
    have B3 := (Fr.setCell [E] W2 ⟨E, 12 + q, none⟩ (.int .u8 1) (.inl (by simp))).keep B2 (by simp; exact HE.out.2)
    clear hcl e28 b1
    go_upto_region 7 with fail
    generalize W2.setCell ⟨E, 12 + q, none⟩ (.int .u8 1) = W3 at E3 F3 B3 ⊢
    obtain ⟨r3, hr3⟩ : ∃ r, r = r2.set q 1 := ⟨_, rfl⟩
    rw [← hr3] at E3
    have hr3l : r3.length = 16 := by rw [hr3, List.length_set]; exact hr2l
    have cL := pload_any r3 hr3l 0 E 12 W3 E3.lt (mac_bytes E3 hal hRl rfl)
    have z64 : (.int .u64 (qd 0) : Value) = .int .u64 0 := rfl
    rw [z64] at cL
    have cB := fun w' h => pblock_any acc R [x0, x1] r3 q (loadL r3 0) hal hRl rfl E w' h
    have hLr : L = blockL acc R (loadL r3 0) := by
      obtain ⟨hq, hR, hacc, hL, hend, hrT, _⟩ := HQ.out
      rw [hL, hacc, hR, hr3, HR2.out, hend]
      unfold lastL
      rw [if_neg (fun h => by rw [h] at hrT; simp at hrT; omega)]
    rw [← hLr] at cB
    obtain ⟨Y, hY⟩ : ∃ Y, Y = loadL r3 0 := ⟨_, rfl⟩
    rw [← hY] at cL cB
    clear hLr hY hr3 z64 g28 gq zq E1 B1 E2 B2 F2 hq0
    go_upto_region 8 with (first
      | (go_at_call 54; refine cL.mono ?_; clear cL; rintro e w4 ⟨rfl, f4⟩)
      | (go_at_call 56; refine (cB _ (f4.keep E3 (by simp))).mono ?_; clear cB; rintro e w5 ⟨rfl, E5, f5⟩)
      | fail)
    have B5 := f5.keep (f4.keep B3 (by simp)) (by simp; exact HE.out.2)
    have FW := F1.new (S := [E]) ((F3.trans (f4.mono (by simp))).trans f5) (by simp; exact HE.out.1)
    clear E3 B3 F3 f4 f5 F1 hA hszM hold hone

    go_upto_region 9 with (first
      | refine wpList_load_mid rfl _ _ rfl E 0 rfl _ _ (mac_acc E5) Tryd.underlying82 rfl hszL ?_
      | (go_at_call 57; refine (cR _).mono ?_; clear cR; rintro e w6 ⟨rfl, f6⟩; have N0 := At.alloc_new w6 82 #[.int .u64 0, .int .u64 0, .int .u64 0, .int .u64 0, .int .u64 0])
      | refine wpList_store_row rfl _ _ _ rfl _ _ rfl rfl _ _ N0.out hszN rfl (qcells_one _) ?_
      | fail)
    have N1 := N0.setRow (qcells [n0, n1, n2, n3, n4]).toArray
    rw [List.toList_toArray] at N1
    have FN := (Fr.alloc [] w6 (.cells #[.int .u64 0, .int .u64 0, .int .u64 0, .int .u64 0, .int .u64 0] 82)).new (S := [w6.heap.size]) (Fr.setRow [w6.heap.size] _ w6.heap.size (qcells [n0, n1, n2, n3, n4]).toArray (.inl (by simp))) (by simp)
    have FW6 := (FW.trans f6).trans FN
    have B6 := (f6.trans FN).keep B5 (by simp)
    change Code.wp _ _ _ _ ((w6.alloc (.cells #[.int .u64 0, .int .u64 0, .int .u64 0, .int .u64 0, .int .u64 0] 82)).setRow w6.heap.size (qcells [n0, n1, n2, n3, n4]).toArray)
    generalize (w6.alloc (.cells #[.int .u64 0, .int .u64 0, .int .u64 0, .int .u64 0, .int .u64 0] 82)).setRow w6.heap.size (qcells [n0, n1, n2, n3, n4]).toArray = W6 at N1 FW6 B6 ⊢
    generalize w6.heap.size = g at N1 ⊢
    have d0 := num_range N1 0 n0 rfl
    have d1 := num_range N1 1 n1 rfl
    have d2 := num_range N1 2 n2 rfl
    have d3 := num_range N1 3 n3 rfl
    have d4 := num_range N1 4 n4 rfl
    have r10 := B6.cell 10
    have r11 := B6.cell 11
    rw [mc_get10 _ _ _ _ _ _ hal hRl] at r10
    rw [mc_get11 _ _ _ _ _ _ hal hRl] at r11
    have r11' : ∀ ob, (W6.alloc ob).cell? ⟨b, 11, none⟩ = some (.int .u64 (qd x1)) := fun ob => ((B6.alloc ob).cell 11).trans (mc_get11 _ _ _ _ _ _ hal hRl)
    clear FN FW E5 B5 N0 f6
    go_upto_region 11 with fail
    obtain ⟨low, hlow⟩ : ∃ l, l = n0 ||| n1 <<< 26 ||| n2 <<< 52 := ⟨_, rfl⟩
    obtain ⟨high, hhigh⟩ : ∃ l, l = n2 >>> 12 ||| n3 <<< 14 ||| n4 <<< 40 := ⟨_, rfl⟩
    rw [← hlow, ← hhigh]
    obtain ⟨sum, hsum⟩ : ∃ s, s = low + x0 := ⟨_, rfl⟩
    have hsum' : low + x0 = sum := hsum.symm
    have HO := Lib.hid (hout low high sum hlow hhigh hsum)
    clear hout hlow hhigh hsum d0 d1 d2 d3 d4 N1
    go_upto_region 13 with fail
    try rw [hsum']
    clear hsum'
    have ad1 := add1
    have ad0 := add0
    by_cases hlt : sum < low
    · have l1 : qd sum < qd low := (qd_lt_iff _ _).2 hlt
      go_upto_region 17 with fail
      have hout2 : outL [n0, n1, n2, n3, n4] x0 x1 = bytes8 sum ++ bytes8 (high + (x1 + 1)) := by rw [HO.out, if_pos hlt]
      have HO2 := Lib.hid hout2
      clear hout2 hlt
      obtain ⟨hi2, hhi2⟩ : ∃ h, h = high + (x1 + 1) := ⟨_, rfl⟩
      rw [← hhi2] at HO2 ⊢
      have O0 := At.alloc_new W6 77 (byteCells (outUp sum hi2 0)).toArray
      rw [List.toList_toArray] at O0
      have FO := FW6.trans (Fr.alloc [] W6 (.cells (byteCells (outUp sum hi2 0)).toArray 77))
      have hwo : w.heap.size ≤ W6.heap.size := FW6.size
      change Code.wp _ _ _ _ (W6.alloc (.cells (byteCells (outUp sum hi2 0)).toArray 77))
      generalize W6.alloc (.cells (byteCells (outUp sum hi2 0)).toArray 77) = W7 at O0 FO ⊢
      generalize W6.heap.size = o at O0 hwo ⊢
      have HW := Lib.hid hwo
      clear hhi2 hwo r10 r11 r11'
      go_wp2_with fail
      go_loopw [73] (fun v wr => ∃ i : Nat, i ≤ 8 ∧ v = .int .i64 i ∧ At wr o 77 (byteCells (outUp sum hi2 i)) ∧ Fr [] w wr) (fun v _ => 8 - (RowKit.intOf v).toNat)
      case atStart => exact ⟨0, by omega, rfl, O0, FO⟩
      case round =>
        clear O0 FO
        obtain ⟨i, hi, rfl, hO, hF⟩ := hrel
        have hol := outUp_len sum hi2 i hi
        by_cases hli : i < 8
        · have l1 : (i : Int) < 8 := by omega
          have w1 : IntKind.i64.wrap (8 * (i : Int)) = ((8 * i : Nat) : Int) := by rw [IntWalk.i64_in _ (by omega)]; omega
          have w2 : IntKind.i64.wrap ((i : Int) + 1) = ((i + 1 : Nat) : Int) := by rw [IntWalk.i64_in _ (by omega)]; omega
          have w3 : IntKind.i64.wrap (8 + (i : Int)) = ((8 + i : Nat) : Int) := by rw [IntWalk.i64_in _ (by omega)]; omega
          have l2 : (i : Int) < 16 := by omega
          have l3 : ((8 + i : Nat) : Int) < 16 := by omega
          have hs1 := shr64_div sum (8 * i) (by omega)
          have hs2 := shr64_div hi2 (8 * i) (by omega)
          have hst := outUp_step sum hi2 i hli
          have ci := hO.cell i
          have zi := hO.frozen i
          rw [byteCells_getD _ _ (by omega)] at ci
          generalize (outUp sum hi2 i).getD i 0 = old1 at ci
          generalize (sum >>> UInt64.ofNat (8 * i)) = y1 at hs1 hst
          generalize (hi2 >>> UInt64.ofNat (8 * i)) = y2 at hs2 hst
          have hO2 := hO.setCell i (.int .u8 (bt y1.toUInt8))
          have cj := hO2.cell (8 + i)
          have zj := hO2.frozen (8 + i)
          rw [List.getElem?_set_ne (by omega), byteCells_getD _ _ (by omega)] at cj
          generalize (outUp sum hi2 i).getD (8 + i) 0 = old2 at cj
          have hO3 := hO2.setCell (8 + i) (.int .u8 (bt y2.toUInt8))
          rw [byteCells_setD, byteCells_setD, hst] at hO3
          have F3 := hF.new (S := [o]) ((Fr.setCell [o] wr ⟨o, i, none⟩ (.int .u8 (bt y1.toUInt8)) (.inl (by simp))).trans (Fr.setCell [o] _ ⟨o, 8 + i, none⟩ (.int .u8 (bt y2.toUInt8)) (.inl (by simp)))) (by simp; exact HW.out)
          clear hst hol hO hO2 hF
          go_wp2_with fail
          go_region
          go_wp2_with fail
          exact ⟨⟨i + 1, by omega, by simp, hO3, F3.trans (Fr.drew _ _)⟩, by simp only [RowKit.intOf]; omega⟩
        · obtain rfl : i = 8 := by omega
          have l1 : ¬ ((8 : Nat) : Int) < 8 := by omega
          rw [outUp_end] at hO
          have hcv := fun c => run_strB (P := Tryd.prog) Tryd.underlying35 Tryd.underlying5 Tryd.underlying9 wr o 0 c _ (bytes8 sum ++ bytes8 hi2) [] [] (by rw [List.nil_append, List.append_nil]; exact hO) rfl 16 (by simp [bytes8_len])
          go_wp2_with fail
          go_ret
          rw [HO2.out]
          exact ⟨rfl, hF⟩
    · have l1 : ¬ qd sum < qd low := fun h => hlt ((qd_lt_iff _ _).1 h)
      go_upto_region 17 with fail
      have hout2 : outL [n0, n1, n2, n3, n4] x0 x1 = bytes8 sum ++ bytes8 (high + x1) := by rw [HO.out, if_neg hlt, UInt64.add_zero]
      have HO2 := Lib.hid hout2
      clear hout2 hlt
      obtain ⟨hi2, hhi2⟩ : ∃ h, h = high + x1 := ⟨_, rfl⟩
      rw [← hhi2] at HO2 ⊢
      have O0 := At.alloc_new W6 77 (byteCells (outUp sum hi2 0)).toArray
      rw [List.toList_toArray] at O0
      have FO := FW6.trans (Fr.alloc [] W6 (.cells (byteCells (outUp sum hi2 0)).toArray 77))
      have hwo : w.heap.size ≤ W6.heap.size := FW6.size
      change Code.wp _ _ _ _ (W6.alloc (.cells (byteCells (outUp sum hi2 0)).toArray 77))
      generalize W6.alloc (.cells (byteCells (outUp sum hi2 0)).toArray 77) = W7 at O0 FO ⊢
      generalize W6.heap.size = o at O0 hwo ⊢
      have HW := Lib.hid hwo
      clear hhi2 hwo r10 r11 r11'
      go_wp2_with fail
      go_loopw [73] (fun v wr => ∃ i : Nat, i ≤ 8 ∧ v = .int .i64 i ∧ At wr o 77 (byteCells (outUp sum hi2 i)) ∧ Fr [] w wr) (fun v _ => 8 - (RowKit.intOf v).toNat)
      case atStart => exact ⟨0, by omega, rfl, O0, FO⟩
      case round =>
        clear O0 FO
        obtain ⟨i, hi, rfl, hO, hF⟩ := hrel
        have hol := outUp_len sum hi2 i hi
        by_cases hli : i < 8
        · have l1 : (i : Int) < 8 := by omega
          have w1 : IntKind.i64.wrap (8 * (i : Int)) = ((8 * i : Nat) : Int) := by rw [IntWalk.i64_in _ (by omega)]; omega
          have w2 : IntKind.i64.wrap ((i : Int) + 1) = ((i + 1 : Nat) : Int) := by rw [IntWalk.i64_in _ (by omega)]; omega
          have w3 : IntKind.i64.wrap (8 + (i : Int)) = ((8 + i : Nat) : Int) := by rw [IntWalk.i64_in _ (by omega)]; omega
          have l2 : (i : Int) < 16 := by omega
          have l3 : ((8 + i : Nat) : Int) < 16 := by omega
          have hs1 := shr64_div sum (8 * i) (by omega)
          have hs2 := shr64_div hi2 (8 * i) (by omega)
          have hst := outUp_step sum hi2 i hli
          have ci := hO.cell i
          have zi := hO.frozen i
          rw [byteCells_getD _ _ (by omega)] at ci
          generalize (outUp sum hi2 i).getD i 0 = old1 at ci
          generalize (sum >>> UInt64.ofNat (8 * i)) = y1 at hs1 hst
          generalize (hi2 >>> UInt64.ofNat (8 * i)) = y2 at hs2 hst
          have hO2 := hO.setCell i (.int .u8 (bt y1.toUInt8))
          have cj := hO2.cell (8 + i)
          have zj := hO2.frozen (8 + i)
          rw [List.getElem?_set_ne (by omega), byteCells_getD _ _ (by omega)] at cj
          generalize (outUp sum hi2 i).getD (8 + i) 0 = old2 at cj
          have hO3 := hO2.setCell (8 + i) (.int .u8 (bt y2.toUInt8))
          rw [byteCells_setD, byteCells_setD, hst] at hO3
          have F3 := hF.new (S := [o]) ((Fr.setCell [o] wr ⟨o, i, none⟩ (.int .u8 (bt y1.toUInt8)) (.inl (by simp))).trans (Fr.setCell [o] _ ⟨o, 8 + i, none⟩ (.int .u8 (bt y2.toUInt8)) (.inl (by simp)))) (by simp; exact HW.out)
          clear hst hol hO hO2 hF
          go_wp2_with fail
          go_region
          go_wp2_with fail
          exact ⟨⟨i + 1, by omega, by simp, hO3, F3.trans (Fr.drew _ _)⟩, by simp only [RowKit.intOf]; omega⟩
        · obtain rfl : i = 8 := by omega
          have l1 : ¬ ((8 : Nat) : Int) < 8 := by omega
          rw [outUp_end] at hO
          have hcv := fun c => run_strB (P := Tryd.prog) Tryd.underlying35 Tryd.underlying5 Tryd.underlying9 wr o 0 c _ (bytes8 sum ++ bytes8 hi2) [] [] (by rw [List.nil_append, List.append_nil]; exact hO) rfl 16 (by simp [bytes8_len])
          go_wp2_with fail
          go_ret
          rw [HO2.out]
          exact ⟨rfl, hF⟩
end Go.Proofs.YtichgiecohhmgaaDoor
