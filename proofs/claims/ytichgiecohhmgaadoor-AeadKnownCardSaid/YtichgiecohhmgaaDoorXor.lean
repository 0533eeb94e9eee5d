/- Xor of the program. -/
import Derived.Test.YtichgiecohhmgaaDoorXorP
import Derived.Test.YtichgiecohhmgaaDoorStr
namespace Go.Proofs.YtichgiecohhmgaaDoor
open Go.RowKit Go.Lib Base
set_option linter.unusedVariables false
set_option linter.unusedSimpArgs false

set_option maxRecDepth 100000 in
set_option maxHeartbeats 1000000 in
theorem xor_ok (k n d : ByteArray) (hk : k.size = 32) (hn : n.size = 12) (hd : d.size ≤ 140737488351232) (c : UInt32) (hroom : (d.size + 63) / 64 + c.toNat ≤ 4294967296) (w : World) (ht : Rounds w) :
    Calls Tryd.prog 14 #[.string k, .int .i64 (wd c), .string n, .string d] w fun e w' => e = .returned (.tuple #[.string ⟨(xorAll (ksAt k.data.toList n.data.toList c) d.data.toList).toArray⟩, .int .i64 0]) ∧ Fr [] w w' := by
  obtain ⟨s0, hs0⟩ : ∃ s, s = heads ++ words k.data.toList ++ List.replicate 1 0 ++ words n.data.toList := ⟨_, rfl⟩
  have hl0 : s0.length = 16 := by
    have := words_len 8 k.data.toList (by simpa using hk)
    have := words_len 3 n.data.toList (by simpa using hn)
    rw [hs0]; simp [heads]; omega
  have hset : ∀ c, s0.set 12 c = bst k.data.toList n.data.toList c := by
    intro c
    have h8 := words_len 8 k.data.toList (by simpa using hk)
    rw [hs0]; unfold bst
    rw [List.append_assoc, List.set_append_right _ _ (by simp [heads, h8]), show 12 - (heads ++ words k.data.toList).length = 0 by simp [heads, h8]]
    simp
  have hld : ∀ w, Calls Tryd.prog 33 #[.string k, .string n, .int .i64 1] w fun e w' => e = .returned (.agg (wcells s0).toArray) ∧ Fr [] w w' := by
    intro w; rw [hs0]; exact load_any k n hk 1 (by omega) (by omega) w
  have hst : ∀ c w, Rounds w → Calls Tryd.prog 34 #[.agg (wcells (s0.set 12 c)).toArray] w fun e w' => ∃ g, e = .returned (.slice (some ⟨g, 0, none⟩) 64 64) ∧ w.heap.size ≤ g ∧ At w' g 5 (byteCells (blk k.data.toList n.data.toList c)) ∧ Fr [] w w' := by
    intro c w h
    have := stream_any (s0.set 12 c) (by simp [hl0]) w h
    unfold blk
    rw [← hset c]; exact this
  have hbl := fun c => blk_len k.data.toList n.data.toList c (by simpa using hk) (by simpa using hn)
  clear hset hs0
  have hsz : (Tryd.prog.info? 56).map (·.size) = some (wcells s0).toArray.size := by
    rw [List.size_toArray]
    simp only [wcells, List.length_map, hl0]
    kernel_rfl
  have hall : (wcells s0).toArray.all (·.oneCell') = true := all_oneCell_toArray (by intro v hv; obtain ⟨x, _, rfl⟩ := List.mem_map.1 hv; rfl)
  have hold : z16.size = (wcells s0).toArray.size := by simp [wcells, hl0, z16]
  have hDl : d.data.toList.length = d.size := by simp
  obtain ⟨D, hD⟩ : ∃ D, D = d.data.toList := ⟨_, rfl⟩
  have hgen : ∀ j i, i < 64 → ksAt k.data.toList n.data.toList c (64 * j + i) = (blk k.data.toList n.data.toList (c + UInt32.ofNat j)).getD i 0 := fun j i h => ksAt_block _ _ _ _ _ h
  obtain ⟨f, hf0⟩ : ∃ f, f = ksAt k.data.toList n.data.toList c := ⟨_, rfl⟩
  rw [← hD, ← hf0]
  rw [← hf0] at hgen
  rw [← hD] at hDl
  obtain ⟨B, hB⟩ : ∃ B : UInt32 → List UInt8, B = fun c => blk k.data.toList n.data.toList c := ⟨_, rfl⟩
  have hBc : ∀ c, blk k.data.toList n.data.toList c = B c := fun c => by rw [hB]
  simp only [hBc] at hst hbl hgen
  clear hB hBc hf0
  have hszS : ∀ x, (Tryd.prog.info? 56).map (·.size) = some (wcells (s0.set 12 x)).toArray.size := by
    intro x
    rw [List.size_toArray]
    simp only [wcells, List.length_map, List.length_set, hl0]
    kernel_rfl
  have hw := wd_lt c
  have wdc : wd c = c.toNat := rfl
  have a1 : IntKind.i64.wrap ((d.size : Int) + 64) = (d.size : Int) + 64 := IntWalk.i64_in _ (by omega)
  have a2 : IntKind.i64.wrap ((d.size : Int) + 64 - 1) = (d.size : Int) + 64 - 1 := IntWalk.i64_in _ (by omega)
  have a3 : IntKind.i64.wrap (4294967296 - wd c) = 4294967296 - wd c := IntWalk.i64_in _ (by omega)
  have a5 : ¬ (4294967296 - wd c < ((d.size : Int) + 64 - 1) / 64) := by omega
  clear hw wdc
  go_enter Tryd.func14, Tryd.ntmps14
  go_upto_region 11 with (first
    | (go_at_call 31; refine (sized_ok k n 12 hk hn _).mono ?_; rintro e w' ⟨rfl, q1, rfl⟩)
    | (go_at_call 32; refine (counted_ok c _).mono ?_; rintro e w' ⟨rfl, q2, rfl⟩)
    | (go_at_call 33; refine (hld _).mono ?_; rintro e w1 ⟨rfl, hf1⟩)
    | refine wpList_store_row rfl _ _ _ rfl _ _ rfl rfl 56 z16 (heap_alloc_new _ _) hsz hold hall ?_
    | fail)
  have F1 : Fr [] w w1 := (Fr.drewN _ _ _).trans hf1
  have h1 : At ((w1.alloc (.cells z16 56)).setRow w1.heap.size (wcells s0).toArray) w1.heap.size 56 (wcells s0) := by
    have := (At.alloc_new w1 56 z16).setRow (wcells s0).toArray
    rwa [List.toList_toArray] at this
  have hf : Fr [] w ((w1.alloc (.cells z16 56)).setRow w1.heap.size (wcells s0).toArray) :=
    F1.new (S := [w1.heap.size]) ((Fr.alloc _ _ _).trans (Fr.setRow _ _ _ _ (.inl (by simp)))) (by have := F1.size; simpa using this)
  obtain ⟨W, hW⟩ : ∃ W, W = (w1.alloc (.cells z16 56)).setRow w1.heap.size (wcells s0).toArray := ⟨_, rfl⟩
  have ez : (w1.alloc (.cells #[Value.int IntKind.u32 0, Value.int IntKind.u32 0, Value.int IntKind.u32 0, Value.int IntKind.u32 0, Value.int IntKind.u32 0, Value.int IntKind.u32 0, Value.int IntKind.u32 0, Value.int IntKind.u32 0, Value.int IntKind.u32 0, Value.int IntKind.u32 0, Value.int IntKind.u32 0, Value.int IntKind.u32 0, Value.int IntKind.u32 0, Value.int IntKind.u32 0, Value.int IntKind.u32 0, Value.int IntKind.u32 0] 56)).setRow w1.heap.size (wcells s0).toArray = W := hW.symm
  rw [ez]
  rw [← hW] at h1 hf
  have hp0 := F1.size
  clear hW ez F1 hld hf1
  generalize w1.heap.size = p at h1 hp0 ⊢
  have c12 := h1.cell 12
  rw [wcells_get _ _ (by omega)] at c12
  have f12 := h1.frozen 12
  generalize s0.getD 12 0 = y at c12
  have h2 : At (W.setCell ⟨p, 12, none⟩ (.int .u32 (wd c))) p 56 (wcells (s0.set 12 (c + UInt32.ofNat 0))) := by
    have := h1.setCell 12 (.int .u32 (wd c))
    rw [wcells_set] at this
    simpa using this
  have hF : Fr [] w (W.setCell ⟨p, 12, none⟩ (.int .u32 (wd c))) := hf.new (S := [p]) (Fr.setCell _ _ _ _ (.inl (by simp))) (by simp; exact hp0)
  go_upto_region 12 with fail
  obtain ⟨V, hV⟩ : ∃ V, V = W.setCell ⟨p, 12, none⟩ (.int .u32 (wd c)) := ⟨_, rfl⟩
  rw [← hV] at h2 hF ⊢
  clear hV h1 hf c12 f12
  obtain ⟨cap, rest, X, hcap, hcv, aX, fX, sX⟩ := run_ofStr (P := Tryd.prog) V 9 35 5 d Tryd.underlying9 Tryd.underlying35 Tryd.underlying5
  have h3 := (fX [p]).trans (Fr.refl [p] X)
  have hpV := h2.lt
  have h2X : At X p 56 (wcells (s0.set 12 (c + UInt32.ofNat 0))) := (fX []).keep h2 (by simp)
  have hFX : Fr [] w X := hF.trans (fX [])
  have hVw := hF.size
  rw [← hD] at aX
  generalize V.heap.size = g at *
  go_wp2_with fail
  go_loopw [15] (fun v wr => ∃ j : Nat, 64 * j < d.size + 64 ∧ v = .int .i64 (64 * j : Nat) ∧ At wr p 56 (wcells (s0.set 12 (c + UInt32.ofNat j))) ∧ AtS wr g 5 (byteCells (xorUp f D (64 * j)) ++ rest) ∧ Fr [] w wr) (fun v _ => d.size + 64 - (intOf v).toNat)
  case atStart => exact ⟨0, by omega, rfl, h2X, by rw [Nat.mul_zero, xorUp_zero]; exact aX, hFX⟩
  case round =>
    clear h2X aX hFX
    obtain ⟨j, hj, rfl, h2, aX, hF⟩ := hrel
    by_cases hl : 64 * j < d.size
    · have l1 : (64 * (j : Int)) < d.size := by omega
      go_wp2_with (first
        | refine wpList_load_row rfl _ _ rfl _ rfl _ _ _ _ h2.out Tryd.underlying56 rfl (hszS _) ?_
        | (go_at_call 34; refine (hst _ _ (ht.keep hF (by simp))).mono ?_; rintro e w3 ⟨g', rfl, hg', a3, f3⟩)
        | fail)
      have hBl := hbl (c + UInt32.ofNat j)
      have h2 := f3.keep h2 (by simp)
      have hgg : g < g' := Nat.lt_of_lt_of_le aX.lt hg'
      have aX := f3.keepS aX (by simp)
      have hF := hF.trans f3
      go_loopw [55] (fun v wr => ∃ i : Nat, i ≤ 64 ∧ v = .int .i64 i ∧ At wr p 56 (wcells (s0.set 12 (c + UInt32.ofNat j))) ∧ AtS wr g 5 (byteCells (xorUp f D (64 * j + i)) ++ rest) ∧ At wr g' 5 (byteCells (B (c + UInt32.ofNat j))) ∧ Fr [] w wr) (fun v _ => 64 - (intOf v).toNat)
      case atStart => exact ⟨0, by omega, rfl, h2, aX, a3, hF⟩
      case round =>
        clear h2 aX a3 hF f3
        obtain ⟨i, hi, rfl, h2, aX, a3, hF⟩ := hrel
        by_cases hl2 : i < 64
        · have ck := a3.cell i
          rw [byteCells_get _ _ (by omega), ← hgen j i hl2] at ck
          have i64 : (i : Int) < 64 := by omega
          have b1 : IntKind.i64.wrap (64 * (j : Int) + i) = 64 * (j : Int) + i := IntWalk.i64_in _ (by omega)
          by_cases hl3 : 64 * j + i < d.size
          · have l3 : 64 * (j : Int) + i < d.size := by omega
            have l4 : (0 : Int) ≤ 64 * (j : Int) + i := by omega
            have t4 : (64 * (j : Int) + i).toNat = 64 * j + i := by omega
            have co := aX.cell (64 * j + i)
            rw [List.getElem?_append_left (by rw [byteCells_length, xorUp_len]; omega), byteCells_get _ _ (by rw [xorUp_len]; omega), xorUp_get _ _ _ (by omega)] at co
            have fo := aX.frozen (64 * j + i) (by simp [byteCells_length, xorUp_len]; omega)
            have hset := Lib.hid (xorUp_set f D (64 * j + i) (by omega))
            generalize D.getD (64 * j + i) 0 = x at co hset
            generalize f (64 * j + i) = y at ck hset
            go_wp2_with fail
            have hgp : g ≠ p := by omega
            have hpg : p ≠ g := by omega
            have hg'g : g' ≠ g := by omega
            refine ⟨⟨i + 1, by omega, by simp, h2.setCell_other hpg _, ?_, a3.setCell_other hg'g _, ?_⟩, by simp only [intOf]; omega⟩
            · have := aX.setCell (64 * j + i) (.int .u8 (bt (x ^^^ y)))
              rw [List.set_append_left _ _ (by rw [byteCells_length, xorUp_len]; omega), byteCells_set, hset.out] at this
              exact this
            · exact hF.new (S := [g]) (Fr.setCell _ _ _ _ (.inl List.mem_cons_self)) (by simp; omega)
          · have l3 : ¬ 64 * (j : Int) + i < d.size := by omega
            go_wp2_with fail
            refine ⟨⟨i + 1, by omega, by simp, h2, ?_, a3, hF⟩, by simp only [intOf]; omega⟩
            rw [← Nat.add_assoc, xorUp_past' _ _ _ (by omega)]
            exact aX
        · obtain rfl : i = 64 := by omega
          have c12 := h2.cell 12
          rw [wcells_get _ _ (by simp; omega)] at c12
          have f12 := h2.frozen 12
          have e12 : (s0.set 12 (c + UInt32.ofNat j)).getD 12 0 = c + UInt32.ofNat j := by
            simp [List.getD, show 12 < s0.length by omega]
          rw [e12] at c12
          have b2 : IntKind.i64.wrap (64 * (j : Int) + 64) = 64 * (j : Int) + 64 := IntWalk.i64_in _ (by omega)
          generalize hz : c + UInt32.ofNat j = z at c12
          go_wp2_with fail
          have hgp : g ≠ p := by omega
          have ez1 : (wd z + 1) % 4294967296 = wd (z + 1) := by
            have := wd_add_mod z 1
            exact this
          have ez2 : z + 1 = c + UInt32.ofNat (j + 1) := by
            rw [← hz]
            apply UInt32.toNat_inj.1
            simp only [UInt32.toNat_add, UInt32.toNat_ofNat', UInt32.toNat_one]
            omega
          rw [ez1, ez2]
          refine ⟨⟨j + 1, by omega, by simp; omega, ?_, ?_, ?_⟩, by simp only [intOf]; omega⟩
          · have := h2.setCell 12 (.int .u32 (wd (c + UInt32.ofNat (j + 1))))
            rw [wcells_set, List.set_set] at this
            exact this
          · exact aX.setCell_other hgp _
          · exact hF.new (S := [p]) (Fr.setCell _ _ _ _ (.inl List.mem_cons_self)) (by simp; omega)
    · have l1 : ¬ (64 * (j : Int)) < d.size := by omega
      rw [xorUp_past _ _ _ (by omega)] at aX
      have hcv := run_convert_bytes_arg (P := Tryd.prog) wr 35 5 Tryd.underlying35 Tryd.underlying5 g 0 d.size cap ((xorAll f D).map fun x => (x.toNat : Int)) (by simp [xorAll_len, hDl]) (fun i hi => by
        rw [Nat.zero_add, aX.cell, List.getElem?_append_left (by rw [byteCells_length, xorAll_len]; omega)]
        simp [byteCells, show i < (xorAll f D).length by rw [xorAll_len]; omega]) 9 Tryd.underlying9
      have est : strOfNums ((xorAll f D).map fun x => (x.toNat : Int)) = ⟨(xorAll f D).toArray⟩ := by
        apply ByteArray.ext
        apply Array.toList_inj.1
        rw [strOfNums_data, List.map_map]
        conv => rhs; rw [← List.map_id (xorAll f D)]
        apply List.map_congr_left
        intro x _
        simp
      rw [est] at hcv
      go_wp2_with fail
      go_ret2
      exact ⟨rfl, hF⟩
end Go.Proofs.YtichgiecohhmgaaDoor
