/- A block of the stream: the program's. -/
import Derived.Test.YtichgiecohhmgaaDoorHash
import Derived.Test.YtichgiecohhmgaaDoorUntil
namespace Go.Proofs.YtichgiecohhmgaaDoor
open Go.RowKit Go.Lib Base
set_option linter.unusedVariables false
set_option linter.unusedSimpArgs false

/-- Word by word added. -/
def addw (a b : List UInt32) : List UInt32 := List.zipWith (· + ·) a b
theorem addw_len (a b : List UInt32) : (addw a b).length = min a.length b.length := by simp [addw]
/-- The 64 bytes of a state. -/
def strm (s : List UInt32) : List UInt8 := (addw (doubles s 10) s).flatMap bytes4
theorem strm_len (s : List UInt32) (hs : s.length = 16) : (strm s).length = 64 := by
  unfold strm; rw [bytes4_len, addw_len, doubles_len, hs]; rfl
/-- The state of a block. -/
def bst (K N : List UInt8) (c : UInt32) : List UInt32 := heads ++ words K ++ [c] ++ words N
theorem bst_len (K N : List UInt8) (c : UInt32) (hk : K.length = 32) (hn : N.length = 12) : (bst K N c).length = 16 := by
  have := words_len 8 K (by omega)
  have := words_len 3 N (by omega)
  simp [bst, heads]; omega
/-- A block. -/
def blk (K N : List UInt8) (c : UInt32) : List UInt8 := strm (bst K N c)
theorem blk_len (K N : List UInt8) (c : UInt32) (hk : K.length = 32) (hn : N.length = 12) : (blk K N c).length = 64 := strm_len _ (bst_len K N c hk hn)

/-- The first i words added. -/
def addTo (a b : List UInt32) (i : Nat) : List UInt32 := (addw a b).take i ++ a.drop i
theorem addTo_len (a b : List UInt32) (i : Nat) (h : a.length = b.length) : (addTo a b i).length = a.length := by
  simp [addTo, addw_len, h]; omega
theorem addTo_get (a b : List UInt32) (i : Nat) (h : a.length = b.length) (hi : i < a.length) : (addTo a b i).getD i 0 = a.getD i 0 := by
  have e : ((addw a b).take i).length = i := by simp [addw_len, ← h]; omega
  simp only [addTo, List.getD]
  rw [List.getElem?_append_right (by omega), e, Nat.sub_self, List.getElem?_drop, Nat.add_zero]
theorem addTo_succ (a b : List UInt32) (i : Nat) (h : a.length = b.length) (hi : i < a.length) : (addTo a b i).set i (a.getD i 0 + b.getD i 0) = addTo a b (i + 1) := by
  have e : ((addw a b).take i).length = i := by simp [addw_len, ← h]; omega
  have e2 : (addw a b)[i]? = some (a.getD i 0 + b.getD i 0) := by
    simp [addw, List.getElem?_zipWith, List.getD, List.getElem?_eq_getElem hi, List.getElem?_eq_getElem (show i < b.length by omega)]
  unfold addTo
  rw [List.set_append_right _ _ (by omega), e, Nat.sub_self, List.take_add_one, e2]
  rw [List.drop_eq_getElem_cons hi, List.set_cons_zero]
  simp

set_option maxRecDepth 100000 in
set_option maxHeartbeats 1000000 in
theorem stream_any (s : List UInt32) (hs : s.length = 16) (w : World) (ht : Rounds w) :
    Calls Tryd.prog 34 #[.agg (wcells s).toArray] w fun e w' => ∃ g, e = .returned (.slice (some ⟨g, 0, none⟩) 64 64) ∧ w.heap.size ≤ g ∧ At w' g 5 (byteCells (strm s)) ∧ Fr [] w w' := by
  obtain ⟨s1, hs1⟩ : ∃ x, x = doubles s 10 := ⟨_, rfl⟩
  have hl1 : s1.length = 16 := by rw [hs1, doubles_len, hs]
  have hst : ∀ w, Rounds w → Calls Tryd.prog 39 #[.agg (wcells s).toArray] w fun e w' => e = .returned (.agg (wcells s1).toArray) ∧ Fr [] w w' := by
    intro w h; rw [hs1]; exact stir_any s hs w h
  have heq : strm s = (addw s1 s).flatMap bytes4 := by rw [hs1]; rfl
  rw [heq]
  clear heq hs1
  have hsz : (Tryd.prog.info? 56).map (·.size) = some (wcells s1).toArray.size := by
    rw [List.size_toArray]
    simp only [wcells, List.length_map, hl1]
    kernel_rfl
  have hall : (wcells s1).toArray.all (·.oneCell') = true := all_oneCell_toArray (by intro v hv; obtain ⟨x, _, rfl⟩ := List.mem_map.1 hv; rfl)
  have hold : z16.size = (wcells s1).toArray.size := by simp [wcells, hl1, z16]
  go_enter Tryd.func34, Tryd.ntmps34
  have A0 := At.alloc_new w 56 (wcells s).toArray
  have hsz0 : (Tryd.prog.info? 56).map (·.size) = some (wcells s).toArray.size := by
    rw [List.size_toArray]
    simp only [wcells, List.length_map, hs]
    kernel_rfl
  go_wp2_with (first
    | refine wpList_load_row rfl _ _ rfl _ rfl _ _ _ _ A0.out Tryd.underlying56 rfl hsz0 ?_
    | (go_at_call 39; refine (hst _ (ht.keep (S := []) (Fr.alloc _ _ _) (by simp))).mono ?_; rintro e w2 ⟨rfl, hf2⟩)
    | refine wpList_store_row rfl _ _ _ rfl _ _ rfl rfl 56 z16 (heap_alloc_new _ _) hsz hold hall ?_
    | fail)
  have h1 : At ((w2.alloc (.cells z16 56)).setRow w2.heap.size (wcells s1).toArray) w2.heap.size 56 (wcells s1) := by
    have := (At.alloc_new w2 56 z16).setRow (wcells s1).toArray
    rwa [List.toList_toArray] at this
  have F2 : Fr [] w w2 := (Fr.alloc _ _ _).trans hf2
  have hlt0 : w.heap.size < w2.heap.size := by have := hf2.size; simp at this; omega
  have h0 : At ((w2.alloc (.cells z16 56)).setRow w2.heap.size (wcells s1).toArray) w.heap.size 56 (wcells s) :=
    ((hf2.keep A0 (by simp)).alloc _).setRow_other (by omega) _
  have hf : Fr [] w ((w2.alloc (.cells z16 56)).setRow w2.heap.size (wcells s1).toArray) :=
    F2.new (S := [w2.heap.size]) ((Fr.alloc _ _ _).trans (Fr.setRow _ _ _ _ (.inl (by simp)))) (by simp; omega)
  obtain ⟨W, hW⟩ : ∃ W, W = (w2.alloc (.cells z16 56)).setRow w2.heap.size (wcells s1).toArray := ⟨_, rfl⟩
  have ez : (w2.alloc (.cells #[Value.int IntKind.u32 0, Value.int IntKind.u32 0, Value.int IntKind.u32 0, Value.int IntKind.u32 0, Value.int IntKind.u32 0, Value.int IntKind.u32 0, Value.int IntKind.u32 0, Value.int IntKind.u32 0, Value.int IntKind.u32 0, Value.int IntKind.u32 0, Value.int IntKind.u32 0, Value.int IntKind.u32 0, Value.int IntKind.u32 0, Value.int IntKind.u32 0, Value.int IntKind.u32 0, Value.int IntKind.u32 0] 56)).setRow w2.heap.size (wcells s1).toArray = W := hW.symm
  rw [ez]
  rw [← hW] at h0 h1 hf
  clear hW ez hst F2 hf2 A0
  generalize w2.heap.size = p at h1 hlt0 ⊢
  go_loopw [7] (fun v wr => ∃ i : Nat, i ≤ 16 ∧ v = .int .i64 i ∧ At wr p 56 (wcells (addTo s1 s i)) ∧ At wr w.heap.size 56 (wcells s) ∧ Fr [] w wr) (fun v _ => 16 - (intOf v).toNat)
  case atStart => exact ⟨0, by omega, rfl, by simpa [addTo] using h1, h0, hf⟩
  case round =>
    clear h0 h1 hf
    obtain ⟨i, hi, rfl, h1, h0, hf⟩ := hrel
    by_cases hl : i < 16
    · have ct := h1.cell i
      have cs := h0.cell i
      rw [wcells_get _ _ (by rw [addTo_len _ _ _ (by omega)]; omega), addTo_get _ _ _ (by omega) (by omega)] at ct
      rw [wcells_get _ _ (by omega)] at cs
      have ft := h1.frozen i
      have fs := h0.frozen i
      have hss := Lib.hid (addTo_succ s1 s i (by omega) (by omega))
      generalize s1.getD i 0 = x at ct hss
      generalize s.getD i 0 = y at cs hss
      have i16 : (i : Int) < 16 := by omega
      go_wp2_with fail
      refine wp_region_until (fun _ => True) (fun w' => w'.cell? ⟨p, i, none⟩ = some (.int .u32 (wd x)) ∧ w'.cell? ⟨w.heap.size, i, none⟩ = some (.int .u32 (wd y))) 8 (by rfl) ?_
      have hT : True := trivial
      have s1 : _ ∧ _ := ⟨ct, cs⟩
      have s1' := fun (_ : (false = false)) => s1
      refine until_t0 0 (v := ?_) rfl (by kernel_rfl) (fun _ _ _ h => h) (Or.inl ⟨by rfl, ?_⟩) (by assumption) (fun h => by first | assumption | exact absurd (h : true = false) (by decide)) ?_
      rotate_left
      · intro w hSw; (try dsimp only at hSw); (try go_simp); (try with_reducible rfl)
      try simp only [Act.put, List.setIfInBounds_toArray, List.set_cons_zero, List.set_cons_succ]
      refine until_t0 1 (v := ?_) rfl (by kernel_rfl) (fun _ _ _ h => h) (Or.inl ⟨by rfl, ?_⟩) (by assumption) (fun h => by first | assumption | exact absurd (h : true = false) (by decide)) ?_
      rotate_left
      · intro w hSw; (try dsimp only at hSw); (try go_simp); (try with_reducible rfl)
      try simp only [Act.put, List.setIfInBounds_toArray, List.set_cons_zero, List.set_cons_succ]
      refine until_t1 2 (v := ?_) rfl (by kernel_rfl) (fun _ _ _ h => h) (Or.inl ⟨by rfl, ?_⟩) (by assumption) (fun h => by first | assumption | exact absurd (h : true = false) (by decide)) ?_
      rotate_left
      · intro w hSw; (try dsimp only at hSw); (try go_simp); (try with_reducible rfl)
      try simp only [Act.put, List.setIfInBounds_toArray, List.set_cons_zero, List.set_cons_succ]
      refine until_t0 3 (v := ?_) rfl (by kernel_rfl) (fun _ _ _ h => h) (Or.inl ⟨by rfl, ?_⟩) (by assumption) (fun h => by first | assumption | exact absurd (h : true = false) (by decide)) ?_
      rotate_left
      · intro w hSw; (try dsimp only at hSw); (try go_simp); (try with_reducible rfl)
      try simp only [Act.put, List.setIfInBounds_toArray, List.set_cons_zero, List.set_cons_succ]
      refine until_t0 4 (v := ?_) rfl (by kernel_rfl) (fun _ _ _ h => h) (Or.inl ⟨by rfl, ?_⟩) (by assumption) (fun h => by first | assumption | exact absurd (h : true = false) (by decide)) ?_
      rotate_left
      · intro w hSw; (try dsimp only at hSw); (try go_simp); (try with_reducible rfl)
      try simp only [Act.put, List.setIfInBounds_toArray, List.set_cons_zero, List.set_cons_succ]
      refine until_t1 5 (v := ?_) rfl (by kernel_rfl) (fun _ _ _ h => h) (Or.inl ⟨by rfl, ?_⟩) (by assumption) (fun h => by first | assumption | exact absurd (h : true = false) (by decide)) ?_
      rotate_left
      · intro w hSw; (try dsimp only at hSw); (try go_simp); (try with_reducible rfl)
      try simp only [Act.put, List.setIfInBounds_toArray, List.set_cons_zero, List.set_cons_succ]
      refine until_t0 6 (v := ?_) rfl (by kernel_rfl) (fun _ _ _ h => h) (Or.inl ⟨by rfl, ?_⟩) (by assumption) (fun h => by first | assumption | exact absurd (h : true = false) (by decide)) ?_
      rotate_left
      · intro w hSw; (try dsimp only at hSw); (try go_simp); (try with_reducible rfl)
      try simp only [Act.put, List.setIfInBounds_toArray, List.set_cons_zero, List.set_cons_succ]
      refine until_t0 7 (v := ?_) rfl (by kernel_rfl) (fun _ _ _ h => h) (Or.inl ⟨by rfl, ?_⟩) (by assumption) (fun h => by first | assumption | exact absurd (h : true = false) (by decide)) ?_
      rotate_left
      · intro w hSw; (try dsimp only at hSw); (try go_simp); (try with_reducible rfl)
      try simp only [Act.put, List.setIfInBounds_toArray, List.set_cons_zero, List.set_cons_succ]
      refine until_only (i := 8) rfl (by kernel_rfl) (by rfl) ?_
      intro K' hK
      go_simp
      refine hK _ _ trivial (fun h => absurd (h : true = false) (by decide)) ?_
      clear hK s1 s1'
      refine until_done (by kernel_rfl) ?_ _
      go_wp2_with fail
      refine ⟨⟨i + 1, by omega, by simp, ?_, ?_, ?_⟩, by simp only [intOf]; omega⟩
      · rw [← hss.out, ← wcells_set]
        exact (h1.setCell i _).drew
      · exact (h0.setCell_other (by show w.heap.size ≠ p; omega) _).drew
      · exact hf.new (S := [p]) ((Fr.setCell _ _ _ _ (.inl (by simp))).trans (Fr.drew _ _)) (by simp; omega)
    · obtain rfl : i = 16 := by omega
      have e16 : addTo s1 s 16 = addw s1 s := by
        unfold addTo
        rw [List.take_of_length_le (by rw [addw_len, hl1, hs]; simp), List.drop_eq_nil_of_le (by omega), List.append_nil]
      rw [e16] at h1
      have hla : (addw s1 s).length = 16 := by rw [addw_len, hl1, hs]; rfl
      have hmk : (Instr.makeSlice 35 (.int .i64 0) (.int .i64 64)).run Tryd.prog wr.drew = .ok (.slice (some ⟨wr.heap.size, 0, none⟩) 0 64) (wr.drew.alloc (.cells (byteCells (zerosB 64)).toArray 5)) := by kernel_rfl
      have hg0 := (At.alloc_new wr.drew 5 (byteCells (zerosB 64)).toArray)
      have hh0 := h1.drew.alloc (.cells (byteCells (zerosB 64)).toArray 5)
      have hplt := h1.lt
      have hput := put_any wr.heap.size p 0 64 16 [] (addw s1 s) (byteCells (zerosB 64)) [] [] 56 _ hg0 (by simpa using hh0) rfl (by omega) (by simp [byteCells_length, zerosB, hla]) (by simp [byteCells_length, zerosB]) (by omega) (by simp [hla])
      rw [hla] at hput
      go_wp2_with fail
      have hplt' : p ≠ wr.heap.size := by omega
      go_region_held3 (fun _ => True) (trivial) (first | (go_at_call 40; refine hput.mono ?_; rintro e w3 ⟨rfl, g3, f3⟩))
      go_wp2_with fail
      go_ret
      refine ⟨wr.heap.size, rfl, hf.size, ?_, hf.new (S := [wr.heap.size]) (((Fr.drew _ _).trans (Fr.alloc _ _ _)).trans f3) (by simp; exact hf.size)⟩
      have e64 : List.drop (4 * 16) (byteCells (zerosB 64)) = [] := List.drop_eq_nil_of_le (by simp [byteCells_length, zerosB])
      rw [e64, List.append_nil, List.nil_append] at g3
      exact g3

theorem counted_ok (c : UInt32) (w : World) : Calls Tryd.prog 32 #[.int .i64 (wd c)] w fun e w' => e = .returned (.int .i64 0) ∧ ∃ q, w' = w.drewN q := by
  go_enter Tryd.func32, Tryd.ntmps32
  go_wp2_with fail
  go_ret
  exact ⟨rfl, 0, rfl⟩
theorem counted_no (c : Int) (hc : c < 0 ∨ 4294967296 ≤ c) (w : World) : Calls Tryd.prog 32 #[.int .i64 c] w fun e w' => e = .returned (.int .i64 42) ∧ ∃ q, w' = w.drewN q := by
  rcases hc with hc | hc
  · go_enter Tryd.func32, Tryd.ntmps32
    go_wp2_with fail
    go_ret
    exact ⟨rfl, 0, rfl⟩
  · have h0 : ¬ c < 0 := by omega
    have h1 : (4294967295 : Int) < c := by omega
    go_enter Tryd.func32, Tryd.ntmps32
    go_wp2_with fail
    go_ret
    exact ⟨rfl, 0, rfl⟩

set_option maxRecDepth 100000 in
set_option maxHeartbeats 1000000 in
theorem block_ok (k n : ByteArray) (hk : k.size = 32) (hn : n.size = 12) (c : UInt32) (w : World) (ht : Rounds w) :
    Calls Tryd.prog 15 #[.string k, .int .i64 (wd c), .string n] w fun e w' => e = .returned (.tuple #[.string ⟨(blk k.data.toList n.data.toList c).toArray⟩, .int .i64 0]) ∧ Fr [] w w' := by
  have hsl := bst_len k.data.toList n.data.toList c (by simpa using hk) (by simpa using hn)
  have hbl := blk_len k.data.toList n.data.toList c (by simpa using hk) (by simpa using hn)
  obtain ⟨s0, hs0⟩ : ∃ s, s = heads ++ words k.data.toList ++ List.replicate 1 0 ++ words n.data.toList := ⟨_, rfl⟩
  have hl0 : s0.length = 16 := by
    have := words_len 8 k.data.toList (by simpa using hk)
    have := words_len 3 n.data.toList (by simpa using hn)
    rw [hs0]; simp [heads]; omega
  have hset : s0.set 12 c = bst k.data.toList n.data.toList c := by
    have h8 := words_len 8 k.data.toList (by simpa using hk)
    rw [hs0]; unfold bst
    rw [List.append_assoc, List.set_append_right _ _ (by simp [heads, h8]), show 12 - (heads ++ words k.data.toList).length = 0 by simp [heads, h8]]
    simp
  have hld : ∀ w, Calls Tryd.prog 33 #[.string k, .string n, .int .i64 1] w fun e w' => e = .returned (.agg (wcells s0).toArray) ∧ Fr [] w w' := by
    intro w; rw [hs0]; exact load_any k n hk 1 (by omega) (by omega) w
  have hst : ∀ w, Rounds w → Calls Tryd.prog 34 #[.agg (wcells (s0.set 12 c)).toArray] w fun e w' => ∃ g, e = .returned (.slice (some ⟨g, 0, none⟩) 64 64) ∧ w.heap.size ≤ g ∧ At w' g 5 (byteCells (strm (s0.set 12 c))) ∧ Fr [] w w' :=
    fun w h => stream_any _ (by simp [hl0]) w h
  have eblk : blk k.data.toList n.data.toList c = strm (s0.set 12 c) := by rw [hset]; rfl
  have hbl : (strm (s0.set 12 c)).length = 64 := strm_len _ (by simp [hl0])
  rw [eblk]
  clear eblk hset hs0 hsl
  generalize hS : s0.set 12 c = S at hst hbl ⊢
  have hlS : S.length = 16 := by rw [← hS]; simp [hl0]
  have hsz : (Tryd.prog.info? 56).map (·.size) = some (wcells s0).toArray.size := by
    rw [List.size_toArray]
    simp only [wcells, List.length_map, hl0]
    kernel_rfl
  have hszS : (Tryd.prog.info? 56).map (·.size) = some (wcells S).toArray.size := by
    rw [List.size_toArray]
    simp only [wcells, List.length_map, hlS]
    kernel_rfl
  have hall : (wcells s0).toArray.all (·.oneCell') = true := all_oneCell_toArray (by intro v hv; obtain ⟨x, _, rfl⟩ := List.mem_map.1 hv; rfl)
  have hold : z16.size = (wcells s0).toArray.size := by simp [wcells, hl0, z16]
  go_enter Tryd.func15, Tryd.ntmps15
  go_upto_region 8 with (first
    | (go_at_call 31; refine (sized_ok k n 12 hk hn _).mono ?_; rintro e w' ⟨rfl, q1, rfl⟩)
    | (go_at_call 32; refine (counted_ok c _).mono ?_; rintro e w' ⟨rfl, q2, rfl⟩)
    | (go_at_call 33; refine (hld _).mono ?_; rintro e w1 ⟨rfl, hf1⟩)
    | refine wpList_store_row rfl _ _ _ rfl _ _ rfl rfl 56 z16 (heap_alloc_new _ _) hsz hold hall ?_
    | fail)
  have F1 : Fr [] w w1 := (Fr.drewN _ _ _).trans hf1
  have h1 : At ((w1.alloc (.cells z16 56)).setRow w1.heap.size (wcells s0).toArray) w1.heap.size 56 (wcells s0) := by
    have := (At.alloc_new w1 56 z16).setRow (wcells s0).toArray
    rwa [List.toList_toArray] at this
  have hf : Fr [] w ((w1.alloc (.cells z16 56)).setRow w1.heap.size (wcells s0).toArray) :=
    F1.new (S := [w1.heap.size]) ((Fr.alloc _ _ _).trans (Fr.setRow _ _ _ _ (.inl (by simp)))) (by have := F1.size; simpa using this)
  obtain ⟨W, hW⟩ : ∃ W, W = (w1.alloc (.cells z16 56)).setRow w1.heap.size (wcells s0).toArray := ⟨_, rfl⟩
  have ez : (w1.alloc (.cells #[Value.int IntKind.u32 0, Value.int IntKind.u32 0, Value.int IntKind.u32 0, Value.int IntKind.u32 0, Value.int IntKind.u32 0, Value.int IntKind.u32 0, Value.int IntKind.u32 0, Value.int IntKind.u32 0, Value.int IntKind.u32 0, Value.int IntKind.u32 0, Value.int IntKind.u32 0, Value.int IntKind.u32 0, Value.int IntKind.u32 0, Value.int IntKind.u32 0, Value.int IntKind.u32 0, Value.int IntKind.u32 0] 56)).setRow w1.heap.size (wcells s0).toArray = W := hW.symm
  rw [ez]
  rw [← hW] at h1 hf
  have hp0 := F1.size
  clear hW ez F1 hld hf1
  generalize w1.heap.size = p at h1 hp0 ⊢
  have c12 := h1.cell 12
  rw [wcells_get _ _ (by omega)] at c12
  have f12 := h1.frozen 12
  generalize s0.getD 12 0 = y at c12
  have h2 : At (W.setCell ⟨p, 12, none⟩ (.int .u32 (wd c))) p 56 (wcells S) := by
    have := h1.setCell 12 (.int .u32 (wd c))
    rwa [wcells_set, hS] at this
  have hF : Fr [] w (W.setCell ⟨p, 12, none⟩ (.int .u32 (wd c))) := hf.new (S := [p]) (Fr.setCell _ _ _ _ (.inl (by simp))) (by simp; exact hp0)
  go_wp2_with (first
    | refine wpList_load_row rfl _ _ rfl _ rfl _ _ _ _ h2.out Tryd.underlying56 rfl hszS ?_
    | (go_at_call 34; refine (hst _ (ht.keep hF (by simp))).mono ?_; rintro e w3 ⟨g, rfl, hg, a3, f3⟩; have hcv := run_strB (d := 9) Tryd.underlying35 Tryd.underlying5 Tryd.underlying9 w3 g 0 64 _ _ [] [] (by rw [List.nil_append, List.append_nil]; exact a3) rfl 64 hbl.symm)
    | fail)
  go_ret2
  exact ⟨rfl, hF.trans f3⟩

theorem block_key (k n : ByteArray) (c : Int) (hk : k.size ≠ 32) (w : World) :
    Calls Tryd.prog 15 #[.string k, .int .i64 c, .string n] w fun e w' => e = .returned (.tuple #[.string ⟨#[]⟩, .int .i64 40]) ∧ Fr [] w w' := by
  go_enter Tryd.func15, Tryd.ntmps15
  go_wp2_with (first
    | (go_at_call 31; refine (sized_key k n 12 hk _).mono ?_; rintro e w' ⟨rfl, q1, rfl⟩)
    | fail)
  go_ret2
  exact ⟨rfl, Fr.drewN _ _ _⟩
theorem block_nonce (k n : ByteArray) (c : Int) (hk : k.size = 32) (hn : n.size ≠ 12) (w : World) :
    Calls Tryd.prog 15 #[.string k, .int .i64 c, .string n] w fun e w' => e = .returned (.tuple #[.string ⟨#[]⟩, .int .i64 41]) ∧ Fr [] w w' := by
  go_enter Tryd.func15, Tryd.ntmps15
  go_wp2_with (first
    | (go_at_call 31; refine (sized_nonce k n 12 hk hn _).mono ?_; rintro e w' ⟨rfl, q1, rfl⟩)
    | fail)
  go_ret2
  exact ⟨rfl, Fr.drewN _ _ _⟩
theorem block_count (k n : ByteArray) (c : Int) (hk : k.size = 32) (hn : n.size = 12) (hc : c < 0 ∨ 4294967296 ≤ c) (w : World) :
    Calls Tryd.prog 15 #[.string k, .int .i64 c, .string n] w fun e w' => e = .returned (.tuple #[.string ⟨#[]⟩, .int .i64 42]) ∧ Fr [] w w' := by
  go_enter Tryd.func15, Tryd.ntmps15
  go_wp2_with (first
    | (go_at_call 31; refine (sized_ok k n 12 hk hn _).mono ?_; rintro e w' ⟨rfl, q1, rfl⟩)
    | (go_at_call 32; refine (counted_no c hc _).mono ?_; rintro e w' ⟨rfl, q2, rfl⟩)
    | fail)
  go_ret2
  exact ⟨rfl, Fr.drewN _ _ _⟩
end Go.Proofs.YtichgiecohhmgaaDoor
