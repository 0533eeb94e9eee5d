/- The program's Poly1305: words, numbers, carrying, a block. -/
import Derived.Test.YtichgiecohhmgaaDoorPolyP
import Derived.Test.YtichgiecohhmgaaDoorOwn
import Derived.Test.YtichgiecohhmgaaDoorRow
import Derived.Test.YtichgiecohhmgaaDoorUntil
import Derived.Test.YtichgiecohhmgaaDoorQuiet
import Derived.Test.YtichgiecohhmgaaDoorRows
import Derived.Deep.Cut
import Derived.Deep.MidRow
namespace Go.Proofs.YtichgiecohhmgaaDoor
open Go.RowKit Go.Lib Go.Joins Base
set_option linter.unusedVariables false
set_option linter.unusedSimpArgs false

/-- These bytes lie there. -/
def Bytes (w : World) (g o : Nat) (b : List UInt8) : Prop := ∀ j x, b[j]? = some x → w.cell? ⟨g, o + j, none⟩ = some (.int .u8 (bt x))
theorem Bytes.keep {w w' : World} {g o : Nat} {b : List UInt8} (h : Bytes w g o b) (f : Fr [] w w') (hg : g < w.heap.size) : Bytes w' g o b := fun j x hj => by
  rw [← h j x hj]; exact World.cell?_of_block (w := w) (f.block g hg (by simp))
theorem Bytes.take {w : World} {g o : Nat} {b : List UInt8} (h : Bytes w g o b) (n : Nat) : Bytes w g o (b.take n) := fun j x hj => by
  refine h j x ?_
  rcases Nat.lt_or_ge j n with h' | h'
  · rw [List.getElem?_take_of_lt h'] at hj; exact hj
  · rw [List.getElem?_take_eq_none (by omega)] at hj; cases hj
theorem Bytes.drop {w : World} {g o : Nat} {b : List UInt8} (h : Bytes w g o b) (n : Nat) : Bytes w g (o + n) (b.drop n) := fun j x hj => by
  rw [List.getElem?_drop] at hj
  rw [Nat.add_assoc]; exact h _ x hj
theorem bytes_at {w : World} {g : Nat} {T : TypeId} {b : List UInt8} (h : At w g T (byteCells b)) : Bytes w g 0 b := fun j x hj => by
  rw [Nat.zero_add, h.cell]
  unfold byteCells
  rw [List.getElem?_map, hj]; rfl

set_option maxRecDepth 100000 in
set_option maxHeartbeats 1000000 in
theorem pword_any (b : List UInt8) (hb : b.length = 8) (g o cap : Nat) (w : World) (hc : Bytes w g o b) :
    Calls Tryd.prog 55 #[.slice (some ⟨g, o, none⟩) 8 cap] w fun e w' => e = .returned (.int .u64 (qd (word8 b))) ∧ w = w' := by
  go_enter Tryd.func55, Tryd.ntmps55
  go_wp2_with fail
  go_loopw [3, 8] (fun v3 v8 wr => ∃ i : Nat, i ≤ 8 ∧ v3 = .int .u64 (qd (wordUp b i)) ∧ v8 = .int .i64 i ∧ w = wr) (fun _ v _ => 8 - (RowKit.intOf v).toNat)
  case atStart => exact ⟨0, by omega, (show Value.int .u64 0 = .int .u64 (qd (wordUp b 0)) from rfl), rfl, rfl⟩
  case round =>
    obtain ⟨i, hi, rfl, rfl, rfl⟩ := hrel
    by_cases hl : i < 8
    · have l1 : (i : Int) < 8 := by omega
      have ci := hc i (b.getD i 0) (by rw [List.getD, List.getElem?_eq_getElem (by omega)]; rfl)
      have w1 : IntKind.i64.wrap (8 * (i : Int)) = ((8 * i : Nat) : Int) := by rw [IntWalk.i64_in _ (by omega)]; omega
      have w2 : IntKind.i64.wrap ((i : Int) + 1) = ((i + 1 : Nat) : Int) := by rw [IntWalk.i64_in _ (by omega)]; omega
      have hs := fun t x => shl64_any t x (8 * i) (by omega) .i64 (by simp)
      have hstep : wordUp b (i + 1) = wordUp b i ||| (b.getD i 0).toUInt64 <<< UInt64.ofNat (8 * i) := rfl
      generalize b.getD i 0 = x at ci hstep
      have HS := Lib.hid hstep
      clear hstep hc
      generalize wordUp b i = y at HS ⊢
      go_wp2_with fail
      exact ⟨⟨i + 1, by omega, by rw [shl64_wrap _ _ (by omega), or64, HS.out], by simp, trivial⟩, by simp only [RowKit.intOf]; omega⟩
    · obtain rfl : i = 8 := by omega
      have l1 : ¬ ((8 : Nat) : Int) < 8 := by omega
      go_wp2_with fail
      go_ret
      exact ⟨rfl, rfl⟩
set_option maxRecDepth 100000 in
set_option maxHeartbeats 1000000 in
theorem pload_any (b : List UInt8) (hb : b.length = 16) (above : UInt64) (g o : Nat) (w : World) (hg : g < w.heap.size) (hc : Bytes w g o b) :
    Calls Tryd.prog 54 #[.pointer (some ⟨g, o, none⟩), .int .u64 (qd above)] w fun e w' => e = .returned (.agg (qcells (loadL b above)).toArray) ∧ Fr [] w w' := by
  obtain ⟨V, hV⟩ : ∃ V : Nat → UInt64, V = fun o' => if o' = o then word8 (b.take 8) else word8 (b.drop 8) := ⟨_, rfl⟩
  have V1 : V o = word8 (b.take 8) := by rw [hV]; simp
  have V2 : V (o + 8) = word8 (b.drop 8) := by rw [hV]; simp
  have cA : ∀ w o' cap, (o' = o ∨ o' = o + 8) → Bytes w g o b → Calls Tryd.prog 55 #[.slice (some ⟨g, o', none⟩) 8 cap] w fun e w' => e = .returned (.int .u64 (qd (V o'))) ∧ Fr [] w w' := fun w o' cap ho h => by
    rcases ho with rfl | rfl
    · rw [V1]
      refine (pword_any (b.take 8) (by simp; omega) g o' cap w (h.take 8)).mono ?_
      rintro e w' ⟨rfl, rfl⟩
      exact ⟨rfl, Fr.refl _ _⟩
    · rw [V2]
      refine (pword_any (b.drop 8) (by simp; omega) g (o + 8) cap w (h.drop 8)).mono ?_
      rintro e w' ⟨rfl, rfl⟩
      exact ⟨rfl, Fr.refl _ _⟩
  have hLd : loadL b above = [V o &&& 67108863, V o >>> 26 &&& 67108863, (V o >>> 52 ||| V (o + 8) <<< 12) &&& 67108863, V (o + 8) >>> 14 &&& 67108863, V (o + 8) >>> 40 ||| above <<< 24] := by rw [V1, V2]; rfl
  rw [hLd]
  obtain ⟨W, hW0⟩ : ∃ W, W = w.alloc (.cells #[.int .u64 0, .int .u64 0, .int .u64 0, .int .u64 0, .int .u64 0] 82) := ⟨_, rfl⟩
  have A0 := At.alloc_new w 82 #[.int .u64 0, .int .u64 0, .int .u64 0, .int .u64 0, .int .u64 0]
  have F0 := Fr.alloc [] w (.cells #[.int .u64 0, .int .u64 0, .int .u64 0, .int .u64 0, .int .u64 0] 82)
  rw [← hW0] at A0 F0
  obtain ⟨p, hp⟩ : ∃ p, p = w.heap.size := ⟨_, rfl⟩
  rw [← hp] at A0
  have hcW := hc.keep F0 hg
  have hgW : g < W.heap.size := Nat.lt_of_lt_of_le hg F0.size
  obtain ⟨G, hG⟩ : ∃ G : World → Prop, G = fun w' => Fr [] W w' := ⟨_, rfl⟩
  have gW : ∀ w', G w' ↔ Fr [] W w' := fun w' => by rw [hG]
  clear hG
  have cA' : ∀ (x : Gw G) o' cap, (o' = o ∨ o' = o + 8) → Calls Tryd.prog 55 #[.slice (some ⟨g, o', none⟩) 8 cap] x.w fun e w' => e = .returned (.int .u64 (qd (V o'))) ∧ Fr [] x.w w' := fun x o' cap ho => cA x.w o' cap ho (hcW.keep ((gW _).1 x.ok) hgW)
  have g1 : ∀ (x : Gw G) w', Fr [] x.w w' → G w' := fun x w' f => (gW _).2 (((gW _).1 x.ok).trans f)
  have g0 : G W.drew := (gW _).2 (Fr.drew _ _)
  have ne : Nonempty (Gw G) := ⟨⟨_, g0⟩⟩
  clear V1 V2 hV hLd cA hcW hgW hg hc
  go_enter Tryd.func54, Tryd.ntmps54
  go_wp2_with fail
  rw [← hW0, ← hp]
  refine wp_region_gw G (by kernel_rfl) (by kernel_rfl) g0 ?_
  repeat (go_big_quiet_step (first
    | (go_at_call 55; exact gw_call (cA' _ _ _ (by simp)) (g1 _))))
  refine wpQuiet_nil ?_
  rintro _ ⟨x, rfl⟩
  have fx := (gW _).1 x.ok
  have hsz : (Tryd.prog.info? 82).map (·.size) = some (qcells [V o &&& 67108863, V o >>> 26 &&& 67108863, (V o >>> 52 ||| V (o + 8) <<< 12) &&& 67108863, V (o + 8) >>> 14 &&& 67108863, V (o + 8) >>> 40 ||| above <<< 24]).toArray.size := by kernel_rfl
  have hA := fx.keep A0 (by simp)
  generalize x.w = X at fx hA ⊢
  go_wp2_with (first
    | refine wpList_store_row rfl _ _ _ rfl _ _ rfl rfl _ _ hA.out hsz rfl (all_oneCell_toArray (by intro v hv; simp [qcells] at hv; rcases hv with rfl | rfl | rfl | rfl | rfl <;> rfl)) ?_
    | fail)
  have A1 := hA.setRow (qcells [V o &&& 67108863, V o >>> 26 &&& 67108863, (V o >>> 52 ||| V (o + 8) <<< 12) &&& 67108863, V (o + 8) >>> 14 &&& 67108863, V (o + 8) >>> 40 ||| above <<< 24]).toArray
  rw [List.toList_toArray] at A1
  refine ⟨rfl, _, ?_, rfl, (F0.trans fx).new (S := [p]) (Fr.setRow [p] _ _ _ (.inl (by simp))) (by simp; omega)⟩
  refine results_cell_row (p := 4) (ty := 82) (by rfl) _ _ p 82 _ (0, 0) _ ?_ A1.out Tryd.underlying82 rfl hsz
  simp only [Act.put, List.setIfInBounds_toArray, List.set_cons_zero, List.set_cons_succ, Array.getD_eq_getD_getElem?, List.getElem?_toArray, List.getElem?_cons_succ, List.getElem?_cons_zero, Option.getD_some]

set_option maxRecDepth 100000 in
set_option maxHeartbeats 1000000 in
theorem carry_any (l : List UInt64) (hl : l.length = 5) (g : Nat) (w : World) (h : At w g 82 (qcells l)) :
    Calls Tryd.prog 74 #[.pointer (some ⟨g, 0, none⟩)] w fun e w' => e = .returned (.tuple #[]) ∧ At w' g 82 (qcells (carryL l)) ∧ Fr [g] w w' := by
  go_enter Tryd.func74, Tryd.ntmps74
  go_wp2_with fail
  go_loopw [3] (fun v wr => ∃ i : Nat, i ≤ 4 ∧ v = .int .i64 i ∧ At wr g 82 (qcells (carryUp l i)) ∧ Fr [g] w wr) (fun v _ => 4 - (RowKit.intOf v).toNat)
  case atStart => exact ⟨0, by omega, rfl, h, Fr.refl _ _⟩
  case round =>
    clear h
    obtain ⟨i, hi, rfl, hA, hF⟩ := hrel
    have hcl := carryUp_len l i
    by_cases hli : i < 4
    · have l1 : (i : Int) < 4 := by omega
      have w2 : IntKind.i64.wrap ((i : Int) + 1) = ((i + 1 : Nat) : Int) := by rw [IntWalk.i64_in _ (by omega)]; omega
      have l2 : ((i + 1 : Nat) : Int) < 5 := by omega
      have l3 : (i : Int) < 5 := by omega
      have hst : carryUp l (i + 1) = ((carryUp l i).set (i + 1) ((carryUp l i).getD (i + 1) 0 + (carryUp l i).getD i 0 >>> 26)).set i ((carryUp l i).getD i 0 &&& 67108863) := rfl
      have c0 := hA.cell i
      have c1 := hA.cell (i + 1)
      have z1 := hA.frozen (i + 1)
      rw [qcells_get _ _ (by omega)] at c0 c1
      generalize hx : (carryUp l i).getD i 0 = x at c0 hst
      generalize hy : (carryUp l i).getD (i + 1) 0 = y at c1 hst
      have hA2 := hA.setCell (i + 1) (.int .u64 (qd (y + x >>> 26)))
      have c2 := hA2.cell i
      rw [List.getElem?_set_ne (by omega), qcells_get _ _ (by omega), hx] at c2
      have z2 := hA2.frozen i
      have hA3 := hA2.setCell i (.int .u64 (qd (x &&& 67108863)))
      rw [qcells_set, qcells_set, ← hst] at hA3
      clear hx hy hst hcl hA hA2
      have F3 := hF.trans ((Fr.setCell [g] wr ⟨g, i + 1, none⟩ (.int .u64 (qd (y + x >>> 26))) (.inl (by simp))).trans (Fr.setCell [g] _ ⟨g, i, none⟩ (.int .u64 (qd (x &&& 67108863))) (.inl (by simp))))
      go_wp2_with fail
      go_region
      go_wp2_with fail
      go_region
      go_wp2_with fail
      exact ⟨⟨i + 1, by omega, by simp, hA3, by first | exact F3.trans (Fr.drewN _ _ _) | exact F3.trans ((Fr.drew _ _).trans (Fr.drew _ _))⟩, by simp only [RowKit.intOf]; omega⟩
    · obtain rfl : i = 4 := by omega
      have l1 : ¬ ((4 : Nat) : Int) < 4 := by omega
      have hfd : carryL l = foldL (carryUp l 4) := rfl
      match hm : carryUp l 4, (by omega : (carryUp l 4).length = 5) with
      | [a, b, c, d, e], _ =>
        rw [hm] at hA hfd
        have hfd2 : carryL l = [a + (e >>> 26) * 5 &&& 67108863, b + (a + (e >>> 26) * 5) >>> 26, c, d, e &&& 67108863] := hfd
        have HFD := Lib.hid hfd2
        clear hfd hfd2 hm hcl
        have c0 := hA.cell 0
        have c4 := hA.cell 4
        have z0 := hA.frozen 0
        change _ = some (Value.int .u64 (qd a)) at c0
        change _ = some (Value.int .u64 (qd e)) at c4
        have hA1 := hA.setCell 0 (.int .u64 (qd (a + (e >>> 26) * 5)))
        have d4 := hA1.cell 4
        have y4 := hA1.frozen 4
        change _ = some (Value.int .u64 (qd e)) at d4
        have hA2 := hA1.setCell 4 (.int .u64 (qd (e &&& 67108863)))
        have e0 := hA2.cell 0
        have e1 := hA2.cell 1
        have y1 := hA2.frozen 1
        change _ = some (Value.int .u64 (qd (a + (e >>> 26) * 5))) at e0
        change _ = some (Value.int .u64 (qd b)) at e1
        have hA3 := hA2.setCell 1 (.int .u64 (qd (b + (a + (e >>> 26) * 5) >>> 26)))
        have f0 := hA3.cell 0
        have y0 := hA3.frozen 0
        change _ = some (Value.int .u64 (qd (a + (e >>> 26) * 5))) at f0
        have hA4 := hA3.setCell 0 (.int .u64 (qd (a + (e >>> 26) * 5 &&& 67108863)))
        clear hA hA1 hA2 hA3
        go_wp2_with fail
        go_region
        go_wp2_with fail
        go_region
        go_wp2_with fail
        go_region
        go_wp2_with fail
        go_region
        have F4 := (((hF.trans (Fr.setCell [g] wr ⟨g, 0, none⟩ (.int .u64 (qd (a + (e >>> 26) * 5))) (.inl (by simp)))).trans (Fr.setCell [g] _ ⟨g, 4, none⟩ (.int .u64 (qd (e &&& 67108863))) (.inl (by simp)))).trans (Fr.setCell [g] _ ⟨g, 1, none⟩ (.int .u64 (qd (b + (a + (e >>> 26) * 5) >>> 26))) (.inl (by simp)))).trans (Fr.setCell [g] _ ⟨g, 0, none⟩ (.int .u64 (qd (a + (e >>> 26) * 5 &&& 67108863))) (.inl (by simp)))
        go_wp2_with fail
        go_end0
        refine ⟨rfl, ?_, F4.trans (Fr.drewN _ _ 4)⟩
        rw [HFD.out]
        exact hA4
end Go.Proofs.YtichgiecohhmgaaDoor
