/- Xor of the reference. -/
import Derived.Test.YtichgiecohhmgaaDoorStr
import Derived.Test.YtichgiecohhmgaaDoorXorP
import Derived.Test.YtichgiecohhmgaaDoorRefBlk
import Derived.Test.YtichgiecohhmgaaDoorUntil
namespace Go.Proofs.YtichgiecohhmgaaDoor
open Go.RowKit Go.Lib Base
set_option linter.unusedVariables false
set_option linter.unusedSimpArgs false

theorem wd_plus (c : UInt32) (m : Nat) (h : c.toNat + m < 4294967296) : wd (c + UInt32.ofNat m) = wd c + m := by
  unfold wd
  rw [UInt32.toNat_add, UInt32.toNat_ofNat_of_lt' (by show m < 4294967296; omega), Nat.mod_eq_of_lt (by omega)]
  simp

section
variable (t : TypeId) (a b : UInt8)
@[go_sem high] theorem binOp_xor8n : binOp .xor t (.int .u8 (a.toNat : Int)) (.int .u8 (b.toNat : Int)) = pure (.int .u8 (bt (a ^^^ b))) := binOp_xor8 t a b
end

set_option maxRecDepth 100000 in
set_option maxHeartbeats 1000000 in
theorem refxor_ok (k n d : ByteArray) (hk : k.size = 32) (hn : n.size = 12) (hd : d.size ≤ 140737488351232) (c : UInt32) (hroom : (d.size + 63) / 64 + c.toNat ≤ 4294967296) (w : World) (ht : Places w) :
    Calls Tryd.prog 29 #[.string k, .int .i64 (wd c), .string n, .string d] w fun e w' => e = .returned (.tuple #[.string ⟨(xorAll (ksAt k.data.toList n.data.toList c) d.data.toList).toArray⟩, .int .i64 0]) ∧ Fr [] w w' := by
  have hDl : d.data.toList.length = d.size := by simp
  obtain ⟨D, hD⟩ : ∃ D, D = d.data.toList := ⟨_, rfl⟩
  have hgen : ∀ j i, i < 64 → ksAt k.data.toList n.data.toList c (64 * j + i) = (blk k.data.toList n.data.toList (c + UInt32.ofNat j)).getD i 0 := fun j i h => ksAt_block _ _ _ _ _ h
  obtain ⟨f, hf0⟩ : ∃ f, f = ksAt k.data.toList n.data.toList c := ⟨_, rfl⟩
  have hbl := fun c => blk_len k.data.toList n.data.toList c (by simpa using hk) (by simpa using hn)
  have hblk := fun c w h => refblock_any k n hk hn c w h
  obtain ⟨B, hB⟩ : ∃ B : UInt32 → List UInt8, B = fun c => blk k.data.toList n.data.toList c := ⟨_, rfl⟩
  have hBc : ∀ c, blk k.data.toList n.data.toList c = B c := fun c => by rw [hB]
  rw [← hD, ← hf0]
  rw [← hf0] at hgen
  rw [← hD] at hDl
  simp only [hBc] at hblk hbl hgen
  clear hB hBc hf0
  have hw := wd_lt c
  have wdc : wd c = c.toNat := rfl
  have a0 : IntKind.i64.wrap ((d.size : Int) + 63) = (d.size : Int) + 63 := IntWalk.i64_in _ (by omega)
  have a1 : IntKind.i64.wrap (wd c + ((d.size : Int) + 63) / 64) = wd c + ((d.size : Int) + 63) / 64 := IntWalk.i64_in _ (by omega)
  have a5 : ¬ (4294967296 < wd c + ((d.size : Int) + 63) / 64) := by omega
  have hsum : ∀ i : Nat, i < d.size → IntKind.i64.wrap (wd c + (i : Int) / 64) = wd (c + UInt32.ofNat (i / 64)) := by
    intro i hi
    rw [wd_plus c _ (by omega), IntWalk.i64_in _ (by omega)]
    simp
  clear wdc
  have HD := Lib.hid hD
  clear hD
  have hsum := Lib.hid hsum
  have hmk := run_mk (P := Tryd.prog) Tryd.underlying35 (by kernel_rfl) d.size (by omega)
  go_enter Tryd.func29, Tryd.ntmps29
  go_wp2_with (first
    | (go_at_call 46; refine (wrong_ok k n (wd c) 12 hk hn hw.1 hw.2 _).mono ?_; rintro e w' ⟨rfl, q1, rfl⟩)
    | fail)
  have h0 : At ((w.drewN q1).alloc (.cells (byteCells (zerosB d.size)).toArray 5)) w.heap.size 5 (byteCells (fillUp (xorAll f D) 0)) := by
    rw [fillUp_zero, xorAll_len, hDl]
    exact At.alloc_new (w.drewN q1) 5 (byteCells (zerosB d.size)).toArray
  have hF : Fr [] w ((w.drewN q1).alloc (.cells (byteCells (zerosB d.size)).toArray 5)) := (Fr.drewN _ _ _).trans (Fr.alloc _ _ _)
  have hXl : (xorAll f D).length = d.size := by rw [xorAll_len, hDl]
  go_loopw [12, 13] (fun v12 v13 wr => ∃ i : Nat, ∃ sv : ByteArray, i ≤ d.size ∧ v13 = .int .i64 i ∧ v12 = .string sv ∧ (i % 64 ≠ 0 → sv.data.toList = B (c + UInt32.ofNat (i / 64))) ∧ At wr w.heap.size 5 (byteCells (fillUp (xorAll f D) i)) ∧ Fr [] w wr) (fun _ v _ => d.size - (intOf v).toNat)
  case atStart => exact ⟨0, _, by omega, rfl, rfl, by simp, h0, hF⟩
  case round =>
    clear h0 hF
    obtain ⟨i, sv, hi, rfl, rfl, hsv, h0, hF⟩ := hrel
    by_cases hl : i < d.size
    · have l1 : (i : Int) < d.size := by omega
      have hs1 := hsum.out i hl
      have hBl := hbl (c + UInt32.ofNat (i / 64))
      have hgi := hgen (i / 64) (i % 64) (by omega)
      rw [show 64 * (i / 64) + i % 64 = i by omega] at hgi
      have hset := Lib.hid (fillUp_set i (xorAll f D) (by omega))
      have hxg := Lib.hid (xorAll_get f D i (by omega))
      obtain ⟨x, hx⟩ : ∃ x, x = D.getD i 0 := ⟨_, rfl⟩
      have gx : d[i] = x := bget _ (by rw [hx, ← HD.out]; simp [List.getD, show i < D.length by omega])
      obtain ⟨y, hy⟩ : ∃ y, y = f i := ⟨_, rfl⟩
      have HX := Lib.hid hx
      have HY := Lib.hid hy
      have m0 : (0 : Int) ≤ (i : Int) % 64 := by omega
      have m2 : (i : Int) % 64 < 64 := by omega
      have tm : (i : Int).tmod 64 = (i : Int) % 64 := Int.tmod_eq_emod_of_nonneg (by omega)
      have mt : ((i : Int) % 64).toNat = i % 64 := by omega
      have fr := h0.frozen i
      have lt0 := h0.lt
      by_cases hm : i % 64 = 0
      · have hm' : (i : Int) % 64 = 0 := by omega
        clear hsv
        go_wp2_with (first
          | (go_at_call 47; refine (hblk (c + UInt32.ofNat (i / 64)) _ (ht.keep hF (by simp))).mono ?_; rintro e w2 ⟨rfl, f2⟩)
          | fail)
        have hF := hF.trans f2
        have h0 := f2.keep h0 (by simp)
        have fr := h0.frozen i
        have lt0 := h0.lt
        obtain ⟨sv, hsv'⟩ : ∃ s : ByteArray, s = ⟨(B (c + UInt32.ofNat (i / 64))).toArray⟩ := ⟨_, rfl⟩
        rw [← hsv']
        have hsv : sv.data.toList = B (c + UInt32.ofNat (i / 64)) := by rw [hsv']
        clear hsv'
        clear hm hm'
        have HSV := Lib.hid hsv
        have svl : sv.size = 64 := by have := congrArg List.length hsv; rw [hBl] at this; simpa using this
        have m1 : (i : Int) % 64 < sv.size := by omega
        have gy : sv[i % 64] = y := bget _ (by
          rw [hy, hgi, hsv]
          simp [List.getD, show i % 64 < (B (c + UInt32.ofNat (i / 64))).length by omega])
        clear hsv hx hy hgi hs1
        have c0 := h0.cell i
        rw [byteCells_get _ _ (by rw [fillUp_len _ _ (by omega)]; omega)] at c0
        generalize (fillUp (xorAll f D) i).getD i 0 = old at c0
        refine wp_region_until (fun _ => True) (fun _ => True) 1000 (by rfl) ?_
        have hT : True := trivial
        refine until_t0 0 (v := ?_) rfl (by kernel_rfl) (fun _ _ _ h => h) (Or.inl ⟨by rfl, ?_⟩) (by assumption) (fun h => by first | assumption | exact absurd (h : true = false) (by decide)) ?_
        rotate_left
        · intro w hSw; (try dsimp only at hSw); (try go_simp); (try with_reducible rfl)
        try simp only [Act.put, List.setIfInBounds_toArray, List.set_cons_zero, List.set_cons_succ]
        refine until_t0 1 (v := ?_) rfl (by kernel_rfl) (fun _ _ _ h => h) (Or.inl ⟨by rfl, ?_⟩) (by assumption) (fun h => by first | assumption | exact absurd (h : true = false) (by decide)) ?_
        rotate_left
        · intro w hSw; (try dsimp only at hSw); (try go_simp); (try with_reducible rfl)
        try simp only [Act.put, List.setIfInBounds_toArray, List.set_cons_zero, List.set_cons_succ]
        refine until_t0 2 (v := ?_) rfl (by kernel_rfl) (fun _ _ _ h => h) (Or.inl ⟨by rfl, ?_⟩) (by assumption) (fun h => by first | assumption | exact absurd (h : true = false) (by decide)) ?_
        rotate_left
        · intro w hSw; (try dsimp only at hSw); (try go_simp); (try with_reducible rfl)
        try simp only [Act.put, List.setIfInBounds_toArray, List.set_cons_zero, List.set_cons_succ]
        refine until_t0 3 (v := ?_) rfl (by kernel_rfl) (fun _ _ _ h => h) (Or.inl ⟨by rfl, ?_⟩) (by assumption) (fun h => by first | assumption | exact absurd (h : true = false) (by decide)) ?_
        rotate_left
        · intro w hSw; (try dsimp only at hSw); (try go_simp); (try with_reducible rfl)
        try simp only [Act.put, List.setIfInBounds_toArray, List.set_cons_zero, List.set_cons_succ]
        refine until_t0 4 (v := ?_) rfl (by kernel_rfl) (fun _ _ _ h => h) (Or.inl ⟨by rfl, ?_⟩) (by assumption) (fun h => by first | assumption | exact absurd (h : true = false) (by decide)) ?_
        rotate_left
        · intro w hSw; (try dsimp only at hSw); (try go_simp); (try with_reducible rfl)
        try simp only [Act.put, List.setIfInBounds_toArray, List.set_cons_zero, List.set_cons_succ]
        refine until_t0 5 (v := ?_) rfl (by kernel_rfl) (fun _ _ _ h => h) (Or.inl ⟨by rfl, ?_⟩) (by assumption) (fun h => by first | assumption | exact absurd (h : true = false) (by decide)) ?_
        rotate_left
        · intro w hSw; (try dsimp only at hSw); (try go_simp); (try with_reducible rfl)
        try simp only [Act.put, List.setIfInBounds_toArray, List.set_cons_zero, List.set_cons_succ]
        refine until_t0 6 (v := ?_) rfl (by kernel_rfl) (fun _ _ _ h => h) (Or.inl ⟨by rfl, ?_⟩) (by assumption) (fun h => by first | assumption | exact absurd (h : true = false) (by decide)) ?_
        rotate_left
        · intro w hSw; (try dsimp only at hSw); (try go_simp); (try with_reducible rfl)
        try simp only [Act.put, List.setIfInBounds_toArray, List.set_cons_zero, List.set_cons_succ]
        refine until_t0 7 (v := ?_) rfl (by kernel_rfl) (fun _ _ _ h => h) (Or.inl ⟨by rfl, ?_⟩) (by assumption) (fun h => by first | assumption | exact absurd (h : true = false) (by decide)) ?_
        rotate_left
        · intro w hSw; (try dsimp only at hSw); (try go_simp); (try with_reducible rfl)
        try simp only [Act.put, List.setIfInBounds_toArray, List.set_cons_zero, List.set_cons_succ]
        refine until_t0 8 (v := ?_) rfl (by kernel_rfl) (fun _ _ _ h => h) (Or.inl ⟨by rfl, ?_⟩) (by assumption) (fun h => by first | assumption | exact absurd (h : true = false) (by decide)) ?_
        rotate_left
        · intro w hSw; (try dsimp only at hSw); (try go_simp); (try with_reducible rfl)
        try simp only [Act.put, List.setIfInBounds_toArray, List.set_cons_zero, List.set_cons_succ]
        refine until_t0 9 (v := ?_) rfl (by kernel_rfl) (fun _ _ _ h => h) (Or.inl ⟨by rfl, ?_⟩) (by assumption) (fun h => by first | assumption | exact absurd (h : true = false) (by decide)) ?_
        rotate_left
        · intro w hSw; (try dsimp only at hSw); (try go_simp); (try with_reducible rfl)
        try simp only [Act.put, List.setIfInBounds_toArray, List.set_cons_zero, List.set_cons_succ]
        refine until_t0 10 (v := ?_) rfl (by kernel_rfl) (fun _ _ _ h => h) (Or.inl ⟨by rfl, ?_⟩) (by assumption) (fun h => by first | assumption | exact absurd (h : true = false) (by decide)) ?_
        rotate_left
        · intro w hSw; (try dsimp only at hSw); (try go_simp); (try with_reducible rfl)
        try simp only [Act.put, List.setIfInBounds_toArray, List.set_cons_zero, List.set_cons_succ]
        refine until_only (i := 11) rfl (by kernel_rfl) (by rfl) ?_
        intro K' hK
        go_simp
        refine hK _ _ trivial (fun _ => trivial) ?_
        clear hK
        refine until_done (by kernel_rfl) ?_ _
        go_wp2_with fail
        have e1 : (xorAll f D).getD i 0 = x ^^^ y := by rw [hxg.out, HX.out, HY.out]
        refine ⟨⟨i + 1, sv, by omega, by simp, rfl, ?_, ?_, ?_⟩, by simp only [intOf]; omega⟩
        · intro h
          rw [show (i + 1) / 64 = i / 64 by omega]
          exact HSV.out
        · have := h0.setCell i (.int .u8 (bt (x ^^^ y)))
          rw [byteCells_set, ← e1, hset.out] at this
          rw [← e1]
          exact this
        · exact hF.new (S := [w.heap.size]) ((Fr.setCell [w.heap.size] w2 ⟨w.heap.size, i, none⟩ _ (.inl (by simp))).trans (Fr.drew _ _)) (by simp)
      · have hm' : ¬ (i : Int) % 64 = 0 := by omega
        have hsv := hsv hm
        go_wp2_with fail
        clear hm hm'
        have HSV := Lib.hid hsv
        have svl : sv.size = 64 := by have := congrArg List.length hsv; rw [hBl] at this; simpa using this
        have m1 : (i : Int) % 64 < sv.size := by omega
        have gy : sv[i % 64] = y := bget _ (by
          rw [hy, hgi, hsv]
          simp [List.getD, show i % 64 < (B (c + UInt32.ofNat (i / 64))).length by omega])
        clear hsv hx hy hgi hs1
        have c0 := h0.cell i
        rw [byteCells_get _ _ (by rw [fillUp_len _ _ (by omega)]; omega)] at c0
        generalize (fillUp (xorAll f D) i).getD i 0 = old at c0
        refine wp_region_until (fun _ => True) (fun _ => True) 1000 (by rfl) ?_
        have hT : True := trivial
        refine until_t0 0 (v := ?_) rfl (by kernel_rfl) (fun _ _ _ h => h) (Or.inl ⟨by rfl, ?_⟩) (by assumption) (fun h => by first | assumption | exact absurd (h : true = false) (by decide)) ?_
        rotate_left
        · intro w hSw; (try dsimp only at hSw); (try go_simp); (try with_reducible rfl)
        try simp only [Act.put, List.setIfInBounds_toArray, List.set_cons_zero, List.set_cons_succ]
        refine until_t0 1 (v := ?_) rfl (by kernel_rfl) (fun _ _ _ h => h) (Or.inl ⟨by rfl, ?_⟩) (by assumption) (fun h => by first | assumption | exact absurd (h : true = false) (by decide)) ?_
        rotate_left
        · intro w hSw; (try dsimp only at hSw); (try go_simp); (try with_reducible rfl)
        try simp only [Act.put, List.setIfInBounds_toArray, List.set_cons_zero, List.set_cons_succ]
        refine until_t0 2 (v := ?_) rfl (by kernel_rfl) (fun _ _ _ h => h) (Or.inl ⟨by rfl, ?_⟩) (by assumption) (fun h => by first | assumption | exact absurd (h : true = false) (by decide)) ?_
        rotate_left
        · intro w hSw; (try dsimp only at hSw); (try go_simp); (try with_reducible rfl)
        try simp only [Act.put, List.setIfInBounds_toArray, List.set_cons_zero, List.set_cons_succ]
        refine until_t0 3 (v := ?_) rfl (by kernel_rfl) (fun _ _ _ h => h) (Or.inl ⟨by rfl, ?_⟩) (by assumption) (fun h => by first | assumption | exact absurd (h : true = false) (by decide)) ?_
        rotate_left
        · intro w hSw; (try dsimp only at hSw); (try go_simp); (try with_reducible rfl)
        try simp only [Act.put, List.setIfInBounds_toArray, List.set_cons_zero, List.set_cons_succ]
        refine until_t0 4 (v := ?_) rfl (by kernel_rfl) (fun _ _ _ h => h) (Or.inl ⟨by rfl, ?_⟩) (by assumption) (fun h => by first | assumption | exact absurd (h : true = false) (by decide)) ?_
        rotate_left
        · intro w hSw; (try dsimp only at hSw); (try go_simp); (try with_reducible rfl)
        try simp only [Act.put, List.setIfInBounds_toArray, List.set_cons_zero, List.set_cons_succ]
        refine until_t0 5 (v := ?_) rfl (by kernel_rfl) (fun _ _ _ h => h) (Or.inl ⟨by rfl, ?_⟩) (by assumption) (fun h => by first | assumption | exact absurd (h : true = false) (by decide)) ?_
        rotate_left
        · intro w hSw; (try dsimp only at hSw); (try go_simp); (try with_reducible rfl)
        try simp only [Act.put, List.setIfInBounds_toArray, List.set_cons_zero, List.set_cons_succ]
        refine until_t0 6 (v := ?_) rfl (by kernel_rfl) (fun _ _ _ h => h) (Or.inl ⟨by rfl, ?_⟩) (by assumption) (fun h => by first | assumption | exact absurd (h : true = false) (by decide)) ?_
        rotate_left
        · intro w hSw; (try dsimp only at hSw); (try go_simp); (try with_reducible rfl)
        try simp only [Act.put, List.setIfInBounds_toArray, List.set_cons_zero, List.set_cons_succ]
        refine until_t0 7 (v := ?_) rfl (by kernel_rfl) (fun _ _ _ h => h) (Or.inl ⟨by rfl, ?_⟩) (by assumption) (fun h => by first | assumption | exact absurd (h : true = false) (by decide)) ?_
        rotate_left
        · intro w hSw; (try dsimp only at hSw); (try go_simp); (try with_reducible rfl)
        try simp only [Act.put, List.setIfInBounds_toArray, List.set_cons_zero, List.set_cons_succ]
        refine until_t0 8 (v := ?_) rfl (by kernel_rfl) (fun _ _ _ h => h) (Or.inl ⟨by rfl, ?_⟩) (by assumption) (fun h => by first | assumption | exact absurd (h : true = false) (by decide)) ?_
        rotate_left
        · intro w hSw; (try dsimp only at hSw); (try go_simp); (try with_reducible rfl)
        try simp only [Act.put, List.setIfInBounds_toArray, List.set_cons_zero, List.set_cons_succ]
        refine until_t0 9 (v := ?_) rfl (by kernel_rfl) (fun _ _ _ h => h) (Or.inl ⟨by rfl, ?_⟩) (by assumption) (fun h => by first | assumption | exact absurd (h : true = false) (by decide)) ?_
        rotate_left
        · intro w hSw; (try dsimp only at hSw); (try go_simp); (try with_reducible rfl)
        try simp only [Act.put, List.setIfInBounds_toArray, List.set_cons_zero, List.set_cons_succ]
        refine until_t0 10 (v := ?_) rfl (by kernel_rfl) (fun _ _ _ h => h) (Or.inl ⟨by rfl, ?_⟩) (by assumption) (fun h => by first | assumption | exact absurd (h : true = false) (by decide)) ?_
        rotate_left
        · intro w hSw; (try dsimp only at hSw); (try go_simp); (try with_reducible rfl)
        try simp only [Act.put, List.setIfInBounds_toArray, List.set_cons_zero, List.set_cons_succ]
        refine until_only (i := 11) rfl (by kernel_rfl) (by rfl) ?_
        intro K' hK
        go_simp
        refine hK _ _ trivial (fun _ => trivial) ?_
        clear hK
        refine until_done (by kernel_rfl) ?_ _
        go_wp2_with fail
        have e1 : (xorAll f D).getD i 0 = x ^^^ y := by rw [hxg.out, HX.out, HY.out]
        refine ⟨⟨i + 1, sv, by omega, by simp, rfl, ?_, ?_, ?_⟩, by simp only [intOf]; omega⟩
        · intro h
          rw [show (i + 1) / 64 = i / 64 by omega]
          exact HSV.out
        · have := h0.setCell i (.int .u8 (bt (x ^^^ y)))
          rw [byteCells_set, ← e1, hset.out] at this
          rw [← e1]
          exact this
        · exact hF.new (S := [w.heap.size]) ((Fr.setCell [w.heap.size] wr ⟨w.heap.size, i, none⟩ _ (.inl (by simp))).trans (Fr.drew _ _)) (by simp)
    · obtain rfl : i = d.size := by omega
      have hcv := run_strB (P := Tryd.prog) (d := 9) Tryd.underlying35 Tryd.underlying5 Tryd.underlying9 wr w.heap.size 0 d.size 5 (xorAll f D) [] [] (by
        rw [List.nil_append, List.append_nil]
        have := h0
        rw [← hXl, fillUp_all] at this
        exact this) rfl d.size hXl.symm
      go_wp2_with fail
      go_ret2
      exact ⟨rfl, hF⟩
end Go.Proofs.YtichgiecohhmgaaDoor
