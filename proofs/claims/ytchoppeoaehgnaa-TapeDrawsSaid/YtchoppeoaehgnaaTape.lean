/- What New, Draw, Left and Drawn of the program's tape do, for every tape and every number. -/
import Derived.Test.YtchoppeoaehgnaaRows
import Derived.Test.YtchoppeoaehgnaaBase
namespace Go.Proofs.Ytchoppeoaehgnaa
open Go.RowKit Go.Lib Base

theorem info5 : (Try.prog.info? 5).map (fun i => (i.zero, i.size, i.bytes)) = some (some (.int .u8 0), 1, 1) := by kernel_rfl
theorem zero5 : ∀ w, (zeroValue 5).run Try.prog w = .ok (.int .u8 0) w := fun _ => by kernel_rfl

/-- The tape at block b, its bytes in block s: rest is what is left. -/
def IsTape (w : World) (b s : Nat) (rest : List UInt8) (dr : Nat) : Prop :=
  ∃ pre : List Value, b ≠ s ∧ pre.length + rest.length ≤ 67108864 ∧ dr ≤ pre.length ∧
    At w b 44 [.slice (some ⟨s, 0, none⟩) (pre.length + rest.length) (pre.length + rest.length), .int .i64 pre.length, .int .i64 dr] ∧ At w s 5 (pre ++ byteCells rest)

set_option maxHeartbeats 400000 in
theorem num_any (a : Int) (w : World) :
    Calls Try.prog 9 #[.int .i64 a] w fun e w' => e = .returned (.int .i64 a) ∧ w = w' := by
  go_enter Try.func9, Try.ntmps9
  go_wp2
  go_ret
  exact ⟨rfl, rfl⟩

set_option maxHeartbeats 400000 in
theorem new_big (s : ByteArray) (w : World) (hs : 67108864 < s.size) (hs' : s.size ≤ 140737488351232) :
    Calls Try.prog 8 #[.string s] w fun e w' => e = .returned (.tuple #[.pointer none, .int .i64 3]) ∧ w = w' := by
  go_enter Try.func8, Try.ntmps8
  go_wp2
  go_ret2
  exact ⟨rfl, rfl⟩

def NewPost (s : ByteArray) (w : World) (e : Ending) (w' : World) : Prop :=
  e = .returned (.tuple #[.pointer (some ⟨w.heap.size + 1, 0, none⟩), .int .i64 0]) ∧ Fr [] w w' ∧ IsTape w' (w.heap.size + 1) w.heap.size s.data.toList 0

set_option maxHeartbeats 400000 in
theorem new_any (s : ByteArray) (w : World) (hs : s.size ≤ 67108864) :
    Calls Try.prog 8 #[.string s] w (NewPost s w) := by
  have hmk := run_mk Try.underlying42 info5 s.size (by omega)
  have A1 : At (w.alloc (.cells (byteCells (zerosB s.size)).toArray 5)) w.heap.size 5 (byteCells (zerosB s.size)) := At.alloc_new w 5 _
  have A2 := A1.alloc (.cells #[Value.slice (some { block := w.heap.size, off := 0 }) s.size s.size, Value.int IntKind.i64 0, Value.int IntKind.i64 0] 44)
  have hcp := run_copyS Try.underlying42 info5 9 3 _ w.heap.size 0 s.size s.size s 5 _ A2 (by omega) (by simp [byteCells_length, zerosB_length])
  have hl : s.data.toList.length = s.size := by simp
  go_enter Try.func8, Try.ntmps8
  go_wp2
  go_ret2
  refine ⟨rfl, ?_, [], by omega, by simp; omega, by simp, ?_, ?_⟩
  · exact ((Fr.alloc [w.heap.size] _ _).trans ((Fr.alloc _ _ _).trans (Fr.setRow _ _ _ _ (by simp)))).mono (by simp)
  · have := (At.alloc_new (w.alloc (.cells (byteCells (zerosB s.size)).toArray 5)) 44 #[Value.slice (some { block := w.heap.size, off := 0 }) s.size s.size, Value.int IntKind.i64 0, Value.int IntKind.i64 0]).setRow_other (k := w.heap.size) (by simp) (byteCells s.data.toList ++ List.drop s.size (byteCells (zerosB s.size))).toArray
    simpa using this
  · have := A2.setRow (byteCells s.data.toList ++ List.drop s.size (byteCells (zerosB s.size))).toArray
    have e : List.drop s.size (byteCells (zerosB s.size)) = [] := List.drop_of_length_le (by simp [byteCells_length, zerosB_length])
    simpa [e] using this

/-- The answers of a tape that is there. -/
theorem left_any (b s : Nat) (rest : List UInt8) (dr : Nat) (w : World) (h : IsTape w b s rest dr) :
    Calls Try.prog 10 #[.pointer (some ⟨b, 0, none⟩)] w fun e w' => e = .returned (.int .i64 rest.length) ∧ ∃ n, w' = w.drewN n := by
  obtain ⟨pre, hne, hl, hd, h0, h1⟩ := h
  have c0 := h0.cell 0
  have c1 := h0.cell 1
  simp at c0 c1
  go_enter Try.func10, Try.ntmps10
  go_wp2
  go_quiet (fail)
  go_wp2
  go_ret
  exact ⟨by congr 2; simp; omega, _, rfl⟩
theorem drawn_any (b s : Nat) (rest : List UInt8) (dr : Nat) (w : World) (h : IsTape w b s rest dr) :
    Calls Try.prog 11 #[.pointer (some ⟨b, 0, none⟩)] w fun e w' => e = .returned (.int .i64 dr) ∧ ∃ n, w' = w.drewN n := by
  obtain ⟨pre, hne, hl, hd, h0, h1⟩ := h
  have c0 := h0.cell 2
  simp at c0
  go_enter Try.func11, Try.ntmps11
  go_wp2
  go_ret
  exact ⟨rfl, 0, rfl⟩
theorem left_nil (w : World) :
    Calls Try.prog 10 #[.pointer none] w fun e w' => e = .returned (.int .i64 0) ∧ w = w' := by
  go_enter Try.func10, Try.ntmps10
  go_wp2
  go_ret
  exact ⟨rfl, rfl⟩
theorem drawn_nil (w : World) :
    Calls Try.prog 11 #[.pointer none] w fun e w' => e = .returned (.int .i64 0) ∧ w = w' := by
  go_enter Try.func11, Try.ntmps11
  go_wp2
  go_ret
  exact ⟨rfl, rfl⟩
theorem draw_nil (n : Int) (w : World) :
    Calls Try.prog 16 #[.pointer none, .int .i64 n] w fun e w' => e = .returned (.tuple #[.string ByteArray.empty, .int .i64 2]) ∧ w = w' := by
  go_enter Try.func16, Try.ntmps16
  go_wp2
  go_ret2
  exact ⟨rfl, rfl⟩
theorem draw_neg (b : Nat) (n : Int) (w : World) (hn : n < 0) :
    Calls Try.prog 16 #[.pointer (some ⟨b, 0, none⟩), .int .i64 n] w fun e w' => e = .returned (.tuple #[.string ByteArray.empty, .int .i64 1]) ∧ w = w' := by
  go_enter Try.func16, Try.ntmps16
  go_wp2
  go_ret2
  exact ⟨rfl, rfl⟩
def DrawPost (b s : Nat) (r : List UInt8) (k : Int) (rest : List UInt8) (dr : Nat) (w : World) (e : Ending) (w' : World) : Prop :=
  e = .returned (.tuple #[.string ⟨r.toArray⟩, .int .i64 k]) ∧ Fr [b, s] w w' ∧ IsTape w' b s rest dr
theorem draw_dry0 (b s : Nat) (dr : Nat) (n : Int) (w : World) (h : IsTape w b s [] dr) (hn : 0 < n) :
    Calls Try.prog 16 #[.pointer (some ⟨b, 0, none⟩), .int .i64 n] w (DrawPost b s [] 10 [] dr w) := by
  have hT := h
  obtain ⟨pre, hne, hl, hd, h0, h1⟩ := h
  have c0 := h0.cell 0
  have c1 := h0.cell 1
  have f1 := h0.frozen 1
  simp at c0 c1
  have hcl : ∀ k, (Builtin.clear_ #[42] 0 #[.slice (some ⟨s, 0, none⟩) 0 0]).run Try.prog (w.drewN k) = .ok (.tuple #[]) (w.drewN k) := by
    intro k
    rw [run_clearB Try.underlying42 zero5 0 (w.drewN k) s 0 0 0 5 _ (h1.drewN k) (by simp)]
    simp [zerosB, byteCells]
    exact setRow_self _ _ _ _ _ (by simpa [byteCells] using (h1.drewN k).out)
  go_enter Try.func16, Try.ntmps16
  go_wp2_with (go_at_call 10; refine (left_any _ _ _ _ _ hT).mono ?_; rintro e w' ⟨rfl, nq, rfl⟩)
  go_region
  go_wp2
  go_ret2
  refine ⟨rfl, (Fr.drewN _ _ _).trans (Fr.setCell _ _ _ _ (by simp)), pre, hne, by simpa using hl, hd, ?_, ?_⟩
  · have := h0.setCell 1 (Value.int IntKind.i64 ↑pre.length)
    simpa using this
  · exact h1.setCell_other (a := ⟨b, 1, none⟩) (Ne.symm hne) _

theorem draw_dry1 (b s : Nat) (rest : List UInt8) (dr : Nat) (n : Int) (w : World) (h : IsTape w b s rest dr) (hn : (rest.length : Int) < n) (hr : rest ≠ []) :
    Calls Try.prog 16 #[.pointer (some ⟨b, 0, none⟩), .int .i64 n] w (DrawPost b s [] 10 [] dr w) := by
  have hT := h
  obtain ⟨pre, hne, hl, hd, h0, h1⟩ := h
  have c0 := h0.cell 0
  have c1 := h0.cell 1
  have f1 := h0.frozen 1
  simp at c0 c1
  have hcl : ∀ k, (Builtin.clear_ #[42] 0 #[.slice (some ⟨s, pre.length, none⟩) rest.length rest.length]).run Try.prog (w.drewN k) = .ok (.tuple #[]) ((w.drewN k).setRow s (pre ++ byteCells (zerosB rest.length)).toArray) := by
    intro k
    rw [run_clearB Try.underlying42 zero5 0 _ s _ _ _ 5 _ (h1.drewN k) (by simp [byteCells_length])]
    congr 2
    rw [List.take_left, List.drop_of_length_le (by simp [byteCells_length]), List.append_nil]
  go_enter Try.func16, Try.ntmps16
  go_wp2_with (go_at_call 10; refine (left_any _ _ _ _ _ hT).mono ?_; rintro e w' ⟨rfl, nq, rfl⟩)
  go_region
  go_wp2
  go_ret2
  refine ⟨rfl, (Fr.drewN _ _ _).trans ((Fr.setRow _ _ _ _ (by simp)).trans (Fr.setCell _ _ _ _ (by simp))), pre ++ byteCells (zerosB rest.length), hne, by simpa [byteCells_length, zerosB_length] using hl, by simp; omega, ?_, ?_⟩
  · have := (h0.setRow_other hne (pre ++ byteCells (zerosB rest.length)).toArray).setCell 1 (Value.int IntKind.i64 (↑pre.length + ↑rest.length))
    simpa [byteCells_length, zerosB_length] using this
  · have := (h1.setRow (pre ++ byteCells (zerosB rest.length)).toArray).setCell_other (a := ⟨b, 1, none⟩) (Ne.symm hne) (Value.int IntKind.i64 (↑pre.length + ↑rest.length))
    simpa [byteCells] using this

theorem draw_dry (b s : Nat) (rest : List UInt8) (dr : Nat) (n : Int) (w : World) (h : IsTape w b s rest dr) (hn : (rest.length : Int) < n) :
    Calls Try.prog 16 #[.pointer (some ⟨b, 0, none⟩), .int .i64 n] w (DrawPost b s [] 10 [] dr w) := by
  by_cases hr : rest = []
  · subst hr; exact draw_dry0 b s dr n w h hn
  · exact draw_dry1 b s rest dr n w h hn hr

set_option maxHeartbeats 2000000 in
theorem draw_ok1 (b s : Nat) (rest : List UInt8) (dr : Nat) (n : Nat) (w : World) (h : IsTape w b s rest dr) (hn : n ≤ rest.length) (hr : rest ≠ []) :
    Calls Try.prog 16 #[.pointer (some ⟨b, 0, none⟩), .int .i64 n] w (DrawPost b s (rest.take n) 0 (rest.drop n) (dr + n) w) := by
  have hT := h
  obtain ⟨pre, hne, hl, hd, h0, h1⟩ := h
  have c0 := h0.cell 0
  have c1 := h0.cell 1
  have c2 := h0.cell 2
  have f1 := h0.frozen 1
  have f2 := h0.frozen 2
  simp at c0 c1 c2
  have hmk := run_mk Try.underlying42 info5 n (by omega)
  have hbl := h0.lt
  have hsl := h1.lt
  have hbs : b ≠ w.heap.size := by omega
  have hrl : 0 < rest.length := List.length_pos_iff.2 hr
  have hB := At.alloc_new w 5 (byteCells (zerosB n)).toArray
  have hsp : byteCells rest = byteCells (rest.take n) ++ byteCells (rest.drop n) := by rw [← byteCells_append, List.take_append_drop]
  have hcp : ∀ k, (Builtin.copy_ #[42, 42] 3 #[.slice (some ⟨w.heap.size, 0, none⟩) n n, .slice (some ⟨s, pre.length, none⟩) rest.length rest.length]).run Try.prog ((w.alloc (Obj.cells (byteCells (zerosB n)).toArray 5)).drewN k) =
      .ok (.int .i64 n) (((w.alloc (Obj.cells (byteCells (zerosB n)).toArray 5)).setRow w.heap.size (byteCells (rest.take n)).toArray).drewN k) := by
    intro k
    have := run_copyB Try.underlying42 info5 42 3 ((w.alloc (Obj.cells (byteCells (zerosB n)).toArray 5)).drewN k) w.heap.size 0 n n s pre.length rest.length rest.length 5 5 _ (rest.take n) pre (byteCells (rest.drop n)) hB (by
      have := h1.alloc (Obj.cells (byteCells (zerosB n)).toArray 5)
      rw [hsp, ← List.append_assoc] at this
      exact this) rfl (by simp only [List.length_take]; rw [Nat.min_comm]) (by simp [byteCells_length, zerosB_length]; omega)
    rw [this]
    have e : List.drop (0 + (rest.take n).length) (byteCells (zerosB n)) = [] := List.drop_of_length_le (by simp [byteCells_length, zerosB_length]; omega)
    simp only [e, List.take_zero, List.nil_append, List.append_nil]
    rw [show (rest.take n).length = n by simp; omega]
    rfl
  have hw : IntKind.i64.wrap ((pre.length : Int) + n) = pre.length + n := IntWalk.i64_in _ (by omega)
  have hw2 : ((pre.length : Int) + n).toNat = pre.length + n := by omega
  have hw3 : IntKind.i64.wrap ((dr : Int) + n) = dr + n := IntWalk.i64_in _ (by omega)
  have hS : At ((w.alloc (Obj.cells (byteCells (zerosB n)).toArray 5)).setRow w.heap.size (byteCells (rest.take n)).toArray) s 5 (pre ++ byteCells rest) := (h1.alloc _).setRow_other (by omega) _
  have hcl : ∀ k, (Builtin.clear_ #[42] 0 #[.slice (some ⟨s, pre.length, none⟩) n rest.length]).run Try.prog (((w.alloc (Obj.cells (byteCells (zerosB n)).toArray 5)).setRow w.heap.size (byteCells (rest.take n)).toArray).drewN k) =
      .ok (.tuple #[]) ((((w.alloc (Obj.cells (byteCells (zerosB n)).toArray 5)).setRow w.heap.size (byteCells (rest.take n)).toArray).setRow s (pre ++ byteCells (zerosB n) ++ byteCells (rest.drop n)).toArray).drewN k) := by
    intro k
    rw [run_clearB Try.underlying42 zero5 0 _ s _ _ _ 5 _ (hS.drewN k) (by simp [byteCells_length]; omega)]
    congr 2
    rw [List.take_left, hsp, ← List.append_assoc, List.drop_left' (by simp [byteCells_length]; omega)]
    rfl
  have hst : ∀ W, At W w.heap.size 5 (byteCells (rest.take n)) → (convert 42 9 (.slice (some ⟨w.heap.size, 0, none⟩) n n)).run Try.prog W = .ok (.string ⟨(rest.take n).toArray⟩) W := fun W hW => run_strB Try.underlying42 Try.underlying5 Try.underlying9 W w.heap.size 0 n 5 (rest.take n) [] [] (by simpa using hW) rfl n (by simp; omega)
  go_enter Try.func16, Try.ntmps16
  go_wp2_with (go_at_call 10; refine (left_any _ _ _ _ _ hT).mono ?_; rintro e w' ⟨rfl, nq, rfl⟩)
  go_region
  go_wp2
  go_region
  go_wp2
  rw [hst _ ?hh]
  case hh => exact (((hB.setRow (byteCells (rest.take n)).toArray).setRow_other (by omega) _).setCell_other (a := ⟨b, 1, none⟩) (by simp; omega) _).setCell_other (a := ⟨b, 2, none⟩) (by simp; omega) _
  go_wp2
  go_ret2
  refine ⟨rfl, ?_, pre ++ byteCells (zerosB n), hne, ?_, ?_, ?_, ?_⟩
  · exact ((Fr.alloc [b, s, w.heap.size] _ _).trans ((Fr.setRow _ _ _ _ (by simp)).trans ((Fr.setRow _ _ _ _ (by simp)).trans ((Fr.setCell _ _ _ _ (by simp)).trans ((Fr.setCell _ _ _ _ (by simp)).trans (Fr.drewN _ _ _)))))).mono (by simp)
  · simp [byteCells_length, zerosB_length]; omega
  · simp [byteCells_length, zerosB_length]; omega
  · have := ((((h0.alloc (Obj.cells (byteCells (zerosB n)).toArray 5)).setRow_other hbs (byteCells (rest.take n)).toArray).setRow_other hne (pre ++ (byteCells (zerosB n) ++ byteCells (List.drop n rest))).toArray).setCell 1 (Value.int .i64 (↑pre.length + ↑n))).setCell 2 (Value.int .i64 (↑dr + ↑n))
    simp [byteCells_length, zerosB_length] at this ⊢
    rw [show pre.length + n + (rest.length - n) = pre.length + rest.length by omega]
    exact this
  · have := ((hS.setRow (pre ++ (byteCells (zerosB n) ++ byteCells (List.drop n rest))).toArray).setCell_other (a := ⟨b, 1, none⟩) (Ne.symm hne) (Value.int .i64 (↑pre.length + ↑n))).setCell_other (a := ⟨b, 2, none⟩) (Ne.symm hne) (Value.int .i64 (↑dr + ↑n))
    rw [List.append_assoc]
    exact this

end Go.Proofs.Ytchoppeoaehgnaa
