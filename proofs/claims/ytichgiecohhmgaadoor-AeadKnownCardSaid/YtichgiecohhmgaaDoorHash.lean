/- HChaCha of the program. -/
import Derived.Test.YtichgiecohhmgaaDoorPut
namespace Go.Proofs.YtichgiecohhmgaaDoor
open Go.RowKit Go.Lib Base
set_option linter.unusedVariables false
set_option linter.unusedSimpArgs false

theorem sized_ok (k n : ByteArray) (z : Nat) (hk : k.size = 32) (hn : n.size = z) (w : World) :
    Calls Tryd.prog 31 #[.string k, .string n, .int .i64 z] w fun e w' => e = .returned (.int .i64 0) ∧ ∃ q, w' = w.drewN q := by
  go_enter Tryd.func31, Tryd.ntmps31
  go_wp2_with fail
  go_ret
  exact ⟨rfl, 0, rfl⟩
theorem sized_key (k n : ByteArray) (z : Nat) (hk : k.size ≠ 32) (w : World) :
    Calls Tryd.prog 31 #[.string k, .string n, .int .i64 z] w fun e w' => e = .returned (.int .i64 40) ∧ ∃ q, w' = w.drewN q := by
  have hk' : (k.size : Int) ≠ 32 := by omega
  go_enter Tryd.func31, Tryd.ntmps31
  go_wp2_with fail
  go_ret
  exact ⟨rfl, 0, rfl⟩
theorem sized_nonce (k n : ByteArray) (z : Nat) (hk : k.size = 32) (hn : n.size ≠ z) (w : World) :
    Calls Tryd.prog 31 #[.string k, .string n, .int .i64 z] w fun e w' => e = .returned (.int .i64 41) ∧ ∃ q, w' = w.drewN q := by
  have hn' : (n.size : Int) ≠ z := by omega
  go_enter Tryd.func31, Tryd.ntmps31
  go_wp2_with fail
  go_ret
  exact ⟨rfl, 0, rfl⟩

/-- The words that HChaCha answers with. -/
def hch (K N : List UInt8) : List UInt32 := let s := doubles (heads ++ words K ++ words N) 10; s.take 4 ++ s.drop 12

set_option maxRecDepth 100000 in
set_option maxHeartbeats 1000000 in
theorem hash_ok (k n : ByteArray) (hk : k.size = 32) (hn : n.size = 16) (w : World) (ht : Rounds w) :
    Calls Tryd.prog 22 #[.string k, .string n] w fun e w' => e = .returned (.tuple #[.string ⟨((hch k.data.toList n.data.toList).flatMap bytes4).toArray⟩, .int .i64 0]) ∧ Fr [] w w' := by
  have hsl : (heads ++ words k.data.toList ++ List.replicate 0 0 ++ words n.data.toList).length = 16 := by
    have := words_len 8 k.data.toList (by simpa using hk)
    have := words_len 4 n.data.toList (by simpa using hn)
    simp [heads]; omega
  obtain ⟨s0, hs0⟩ : ∃ s, s = heads ++ words k.data.toList ++ List.replicate 0 0 ++ words n.data.toList := ⟨_, rfl⟩
  rw [← hs0] at hsl
  obtain ⟨s1, hs1⟩ : ∃ s, s = doubles s0 10 := ⟨_, rfl⟩
  have hl1 : s1.length = 16 := by rw [hs1, doubles_len, hsl]
  have hld : ∀ w, Calls Tryd.prog 33 #[.string k, .string n, .int .i64 0] w fun e w' => e = .returned (.agg (wcells s0).toArray) ∧ Fr [] w w' := by
    intro w; rw [hs0]; exact load_any k n hk 0 (by omega) (by omega) w
  have hst : ∀ w, Rounds w → Calls Tryd.prog 39 #[.agg (wcells s0).toArray] w fun e w' => e = .returned (.agg (wcells s1).toArray) ∧ Fr [] w w' := by
    intro w h; rw [hs1]; exact stir_any s0 hsl w h
  have heq : hch k.data.toList n.data.toList = s1.take 4 ++ s1.drop 12 := by
    rw [hs1, hs0]; simp [hch]
  rw [heq]
  clear heq hs1 hs0
  have hsz : (Tryd.prog.info? 56).map (·.size) = some (wcells s1).toArray.size := by
    rw [List.size_toArray]
    simp only [wcells, List.length_map, hl1]
    kernel_rfl
  have hall : (wcells s1).toArray.all (·.oneCell') = true := all_oneCell_toArray (by intro v hv; obtain ⟨x, _, rfl⟩ := List.mem_map.1 hv; rfl)
  have hold : z16.size = (wcells s1).toArray.size := by simp [wcells, hl1, z16]
  go_enter Tryd.func22, Tryd.ntmps22
  go_wp2_with (first
    | (go_at_call 31; refine (sized_ok k n 16 hk hn _).mono ?_; rintro e w' ⟨rfl, q1, rfl⟩)
    | (go_at_call 33; refine (hld _).mono ?_; rintro e w1 ⟨rfl, hf1⟩)
    | (go_at_call 39; refine (hst _ (ht.keep (S := []) ((Fr.drewN _ _ _).trans hf1) (by simp))).mono ?_; rintro e w2 ⟨rfl, hf2⟩)
    | refine wpList_store_row rfl _ _ _ rfl _ _ rfl rfl 56 z16 (heap_alloc_new _ _) hsz hold hall ?_
    | fail)
  have h1 : At ((w2.alloc (.cells z16 56)).setRow w2.heap.size (wcells s1).toArray) w2.heap.size 56 (wcells s1) := by
    have := (At.alloc_new w2 56 z16).setRow (wcells s1).toArray
    rwa [List.toList_toArray] at this
  have hf : Fr [] w ((w2.alloc (.cells z16 56)).setRow w2.heap.size (wcells s1).toArray) :=
    (((Fr.drewN _ _ _).trans hf1).trans hf2).new (S := [w2.heap.size]) ((Fr.alloc _ _ _).trans (Fr.setRow _ _ _ _ (.inl (by simp)))) (by
      have := (((Fr.drewN [] w q1).trans hf1).trans hf2).size
      simpa using this)
  have hlt := h1.lt
  obtain ⟨W, hW⟩ : ∃ W, W = (w2.alloc (.cells z16 56)).setRow w2.heap.size (wcells s1).toArray := ⟨_, rfl⟩
  have ez : (w2.alloc (.cells #[Value.int IntKind.u32 0, Value.int IntKind.u32 0, Value.int IntKind.u32 0, Value.int IntKind.u32 0, Value.int IntKind.u32 0, Value.int IntKind.u32 0, Value.int IntKind.u32 0, Value.int IntKind.u32 0, Value.int IntKind.u32 0, Value.int IntKind.u32 0, Value.int IntKind.u32 0, Value.int IntKind.u32 0, Value.int IntKind.u32 0, Value.int IntKind.u32 0, Value.int IntKind.u32 0, Value.int IntKind.u32 0] 56)).setRow w2.heap.size (wcells s1).toArray = W := hW.symm
  rw [ez]
  rw [← hW] at h1 hf hlt
  clear hW ez hf1 hf2 hld hst
  have hi5 : (Tryd.prog.info? 5).map (fun i => (i.zero, i.size, i.bytes)) = some (some (.int .u8 0), 1, 1) := by kernel_rfl
  have hmk : (Instr.makeSlice 35 (.int .i64 0) (.int .i64 32)).run Tryd.prog W.drew = .ok (.slice (some ⟨W.heap.size, 0, none⟩) 0 32) (W.drew.alloc (.cells (byteCells (zerosB 32)).toArray 5)) := by kernel_rfl
  have hg0 := (At.alloc_new W.drew 5 (byteCells (zerosB 32)).toArray)
  have hh0 := h1.drew.alloc (.cells (byteCells (zerosB 32)).toArray 5)
  have hput := put_any W.heap.size w2.heap.size 0 32 16 [] (s1.take 4) (byteCells (zerosB 32)) [] (wcells (s1.drop 4)) 56 _ hg0 (by
    have e : [] ++ wcells (s1.take 4) ++ wcells (s1.drop 4) = wcells s1 := by simp only [wcells, List.nil_append, ← List.map_append, List.take_append_drop]
    rw [e]; exact hh0) rfl (by omega) (by simp [byteCells_length, zerosB, hl1]) (by simp [byteCells_length, zerosB]) (by omega) (by simp [hl1])
  rw [show (s1.take 4).length = 4 by simp [hl1]] at hput
  go_region_held3 (fun _ => True) (trivial) (first | (go_at_call 40; refine hput.mono ?_; rintro e w3 ⟨rfl, g3, f3⟩))
  have hne : w2.heap.size ≠ W.heap.size := by omega
  have h3 : At w3 w2.heap.size 56 (wcells s1) := f3.keep hh0 (by simpa using hne)
  have hf3 : Fr [] w w3 := by
    refine hf.new (S := [W.heap.size]) ?_ (by have := hf.size; simpa using this)
    exact ((Fr.drew _ _).trans (Fr.alloc _ _ _)).trans f3
  have hszW := hf.size
  clear hput hmk hg0 hh0 f3 h1 hf
  have hb16 : ((s1.take 4).flatMap bytes4).length = 16 := by rw [bytes4_len]; simp [hl1]
  have hb16' : ((s1.drop 12).flatMap bytes4).length = 16 := by rw [bytes4_len]; simp [hl1]
  have hput := put_any W.heap.size w2.heap.size 12 32 4 ((s1.take 4).flatMap bytes4) (s1.drop 12) (List.drop 16 (byteCells (zerosB 32))) (wcells (s1.take 12)) [] 56 w3 (by simpa [hl1] using g3) (by
    have e : wcells (s1.take 12) ++ wcells (s1.drop 12) ++ [] = wcells s1 := by simp only [wcells, List.append_nil, ← List.map_append, List.take_append_drop]
    rw [e]; exact h3) (by simp [wcells, hl1]) (by omega) (by simp [byteCells_length, zerosB, hl1]) (by rw [hb16]; simp [byteCells_length, zerosB]) (by omega) (by simp [hl1])
  rw [show (s1.drop 12).length = 4 by simp [hl1], hb16] at hput
  go_wp2_with (first | (go_at_call 40; refine hput.mono ?_; rintro e w4 ⟨rfl, g4, f4⟩; have hcv := run_strB (d := 9) Tryd.underlying35 Tryd.underlying5 Tryd.underlying9 w4 W.heap.size 0 32 _ _ [] _ (by rw [List.nil_append]; exact g4) rfl 32 (by rw [List.length_append, hb16, hb16'])) | fail)
  go_ret2
  refine ⟨by rw [List.flatMap_append]; rfl, hf3.new (S := [W.heap.size]) f4 (by simp; exact hszW)⟩
end Go.Proofs.YtichgiecohhmgaaDoor
