/- What Draw does when there is enough, and what the document's tape does. -/
import Derived.Test.YtchoppeoaehgnaaTape
namespace Go.Proofs.Ytchoppeoaehgnaa
open Go.RowKit Go.Lib Base

/-- Nothing is left, and nothing is drawn. -/
theorem draw_ok0 (b s : Nat) (dr : Nat) (w : World) (h : IsTape w b s [] dr) :
    Calls Try.prog 16 #[.pointer (some ⟨b, 0, none⟩), .int .i64 0] w (DrawPost b s [] 0 [] dr w) := by
  have hT := h
  obtain ⟨pre, hne, hl, hd, h0, h1⟩ := h
  have c0 := h0.cell 0
  have c1 := h0.cell 1
  have c2 := h0.cell 2
  have f1 := h0.frozen 1
  have f2 := h0.frozen 2
  simp at c0 c1 c2
  have hmk : ∀ W : World, (Instr.makeSlice 42 (.int .i64 0) (.int .i64 0)).run Try.prog W = .ok (.slice (some ⟨W.heap.size, 0, none⟩) 0 0) (W.alloc (.cells (byteCells (zerosB 0)).toArray 5)) := fun W => run_mk Try.underlying42 info5 0 (by omega) W
  have hbl := h0.lt
  have hsl := h1.lt
  have hbs : b ≠ w.heap.size := by omega
  have hcp : ∀ W, (Builtin.copy_ #[42, 42] 3 #[.slice (some ⟨w.heap.size, 0, none⟩) 0 0, .slice (some ⟨s, 0, none⟩) 0 0]).run Try.prog W = .ok (.int .i64 0) W := by
    intro W
    exact run_copy_none W 42 42 3 5 _ _ 0 0 0 0 Try.underlying42 (info_size info5) rfl
  have hcl : ∀ W, (Builtin.clear_ #[42] 0 #[.slice (some ⟨s, 0, none⟩) 0 0]).run Try.prog W = .ok (.tuple #[]) W := by
    intro W
    simp [Builtin.clear_, run_underlying Try.underlying42]
  have hst : ∀ W : World, w.heap.size < W.heap.size → (convert 42 9 (.slice (some ⟨w.heap.size, 0, none⟩) 0 0)).run Try.prog W = .ok (.string ByteArray.empty) W := by
    intro W _
    have := run_convert_bytes_arg (P := Try.prog) W 42 5 Try.underlying42 Try.underlying5 w.heap.size 0 0 0 [] rfl (by omega) 9 Try.underlying9
    rw [this]; rfl
  have hm0 : byteCells (zerosB 0) = [] := rfl
  have hB : At (w.alloc (Obj.cells (byteCells (zerosB 0)).toArray 5)) w.heap.size 5 [] := At.alloc_new w 5 _
  go_enter Try.func16, Try.ntmps16
  go_wp2_with (go_at_call 10; refine (left_any _ _ _ _ _ hT).mono ?_; rintro e w' ⟨rfl, nq, rfl⟩)
  go_region
  go_wp2
  go_region
  go_wp2
  go_ret2
  refine ⟨rfl, ?_, pre, hne, hl, hd, ?_, ?_⟩
  · exact ((Fr.setCell [b, s] _ _ _ (by simp)).trans ((Fr.setCell _ _ _ _ (by simp)).trans ((Fr.alloc _ _ _).trans (Fr.drewN _ _ _))))
  · have := ((h0.setCell 1 (Value.int .i64 ↑pre.length)).setCell 2 (Value.int .i64 ↑dr)).alloc (Obj.cells #[] 5)
    simpa using this
  · exact ((h1.setCell_other (a := ⟨b, 1, none⟩) (Ne.symm hne) _).setCell_other (a := ⟨b, 2, none⟩) (Ne.symm hne) _).alloc _

theorem draw_ok (b s : Nat) (rest : List UInt8) (dr : Nat) (n : Nat) (w : World) (h : IsTape w b s rest dr) (hn : n ≤ rest.length) :
    Calls Try.prog 16 #[.pointer (some ⟨b, 0, none⟩), .int .i64 n] w (DrawPost b s (rest.take n) 0 (rest.drop n) (dr + n) w) := by
  by_cases hr : rest = []
  · subst hr
    obtain rfl : n = 0 := by simpa using hn
    exact draw_ok0 b s dr w h
  · exact draw_ok1 b s rest dr n w h hn hr

/-- What a Draw answers, in one word: the bytes, the error, what is left, what is drawn. -/
def drawR (rest : List UInt8) (dr : Nat) (n : Int) : List UInt8 × Int × List UInt8 × Nat :=
  if n < 0 then ([], 1, rest, dr) else if (rest.length : Int) < n then ([], 10, [], dr) else (rest.take n.toNat, 0, rest.drop n.toNat, dr + n.toNat)

theorem draw_any (b s : Nat) (rest : List UInt8) (dr : Nat) (n : Int) (w : World) (h : IsTape w b s rest dr) :
    Calls Try.prog 16 #[.pointer (some ⟨b, 0, none⟩), .int .i64 n] w (DrawPost b s (drawR rest dr n).1 (drawR rest dr n).2.1 (drawR rest dr n).2.2.1 (drawR rest dr n).2.2.2 w) := by
  unfold drawR
  by_cases h1 : n < 0
  · rw [if_pos h1]
    exact (draw_neg b n w h1).mono fun e w' ⟨he, hw⟩ => ⟨he, hw ▸ Fr.refl _ _, hw ▸ h⟩
  · rw [if_neg h1]
    by_cases h2 : (rest.length : Int) < n
    · rw [if_pos h2]; exact draw_dry b s rest dr n w h h2
    · rw [if_neg h2]
      obtain ⟨k, rfl⟩ := Int.eq_ofNat_of_zero_le (by omega : 0 ≤ n)
      exact draw_ok b s rest dr k w h (by omega)

/-! The document's tape: block r holds what is left and how much was drawn. -/
def IsRef (w : World) (r : Nat) (rest : List UInt8) (dr : Nat) : Prop := At w r 46 [.string ⟨rest.toArray⟩, .int .i64 dr] ∧ rest.length + dr ≤ 67108864

theorem refnew_big (s : ByteArray) (w : World) (hs : 67108864 < s.size) (hs' : s.size ≤ 140737488351232) :
    Calls Try.prog 12 #[.string s] w fun e w' => e = .returned (.tuple #[.pointer none, .int .i64 3]) ∧ w = w' := by
  go_enter Try.func12, Try.ntmps12
  go_wp2
  go_ret2
  exact ⟨rfl, rfl⟩
def RefNewPost (s : ByteArray) (w : World) (e : Ending) (w' : World) : Prop :=
  e = .returned (.tuple #[.pointer (some ⟨w.heap.size, 0, none⟩), .int .i64 0]) ∧ Fr [] w w' ∧ IsRef w' w.heap.size s.data.toList 0
theorem refnew_any (s : ByteArray) (w : World) (hs : s.size ≤ 67108864) :
    Calls Try.prog 12 #[.string s] w (RefNewPost s w) := by
  go_enter Try.func12, Try.ntmps12
  go_wp2
  go_ret2
  refine ⟨rfl, Fr.alloc _ _ _, ?_, by simpa using hs⟩
  exact At.alloc_new _ _ _
theorem refleft_any (r : Nat) (rest : List UInt8) (dr : Nat) (w : World) (h : IsRef w r rest dr) :
    Calls Try.prog 14 #[.pointer (some ⟨r, 0, none⟩)] w fun e w' => e = .returned (.int .i64 rest.length) ∧ w = w' := by
  have c0 := h.1.cell 0
  simp at c0
  go_enter Try.func14, Try.ntmps14
  go_wp2
  go_ret
  exact ⟨by simp [ByteArray.size], rfl⟩
theorem refdrawn_any (r : Nat) (rest : List UInt8) (dr : Nat) (w : World) (h : IsRef w r rest dr) :
    Calls Try.prog 15 #[.pointer (some ⟨r, 0, none⟩)] w fun e w' => e = .returned (.int .i64 dr) ∧ w = w' := by
  have c0 := h.1.cell 1
  simp at c0
  go_enter Try.func15, Try.ntmps15
  go_wp2
  go_ret
  exact ⟨rfl, rfl⟩
theorem refleft_nil (w : World) :
    Calls Try.prog 14 #[.pointer none] w fun e w' => e = .returned (.int .i64 0) ∧ w = w' := by
  go_enter Try.func14, Try.ntmps14
  go_wp2
  go_ret
  exact ⟨rfl, rfl⟩
theorem refdrawn_nil (w : World) :
    Calls Try.prog 15 #[.pointer none] w fun e w' => e = .returned (.int .i64 0) ∧ w = w' := by
  go_enter Try.func15, Try.ntmps15
  go_wp2
  go_ret
  exact ⟨rfl, rfl⟩
theorem refdraw_nil (n : Int) (w : World) :
    Calls Try.prog 17 #[.pointer none, .int .i64 n] w fun e w' => e = .returned (.tuple #[.string ByteArray.empty, .int .i64 2]) ∧ w = w' := by
  go_enter Try.func17, Try.ntmps17
  go_wp2
  go_ret2
  exact ⟨rfl, rfl⟩
def RefPost (r : Nat) (o : List UInt8) (k : Int) (rest : List UInt8) (dr : Nat) (w : World) (e : Ending) (w' : World) : Prop :=
  e = .returned (.tuple #[.string ⟨o.toArray⟩, .int .i64 k]) ∧ Fr [r] w w' ∧ IsRef w' r rest dr
theorem refdraw_any (r : Nat) (rest : List UInt8) (dr : Nat) (n : Int) (w : World) (h : IsRef w r rest dr) :
    Calls Try.prog 17 #[.pointer (some ⟨r, 0, none⟩), .int .i64 n] w (RefPost r (drawR rest dr n).1 (drawR rest dr n).2.1 (drawR rest dr n).2.2.1 (drawR rest dr n).2.2.2 w) := by
  have c0 := h.1.cell 0
  have c1 := h.1.cell 1
  have f0 := h.1.frozen 0
  have f1 := h.1.frozen 1
  simp at c0 c1
  have hsz : (⟨rest.toArray⟩ : ByteArray).size = rest.length := by simp [ByteArray.size]
  unfold drawR
  by_cases h1 : n < 0
  · rw [if_pos h1]
    go_enter Try.func17, Try.ntmps17
    go_wp2
    go_ret2
    exact ⟨rfl, Fr.refl _ _, h⟩
  · rw [if_neg h1]
    by_cases h2 : (rest.length : Int) < n
    · rw [if_pos h2]
      go_enter Try.func17, Try.ntmps17
      go_wp2
      go_ret2
      refine ⟨rfl, Fr.setCell _ _ _ _ (by simp), ?_⟩
      exact ⟨h.1.setCell 0 _, by have := h.2; simp; omega⟩
    · rw [if_neg h2]
      obtain ⟨k, rfl⟩ := Int.eq_ofNat_of_zero_le (by omega : 0 ≤ n)
      go_enter Try.func17, Try.ntmps17
      go_wp2
      go_ret2
      have hx : ∀ a b, ({ data := rest.toArray } : ByteArray).extract a b = ⟨((rest.drop a).take (b - a)).toArray⟩ := by
        intro a b; apply ByteArray.ext; apply Array.toList_inj.1; rw [extract_data]
      rw [hx 0 k, hx k rest.length]
      refine ⟨by simp, (Fr.setCell _ _ _ _ (by simp)).trans (Fr.setCell _ _ _ _ (by simp)), ?_, by have := h.2; simp; omega⟩
      have := (h.1.setCell 0 (Value.string ⟨((rest.drop k).take (rest.length - k)).toArray⟩)).setCell 1 (Value.int .i64 (wrap64 (↑dr + ↑k)))
      have e1 : wrap64 ((dr : Int) + k) = dr + k := by have := h.2; unfold wrap64; omega
      have e2 : (rest.drop k).take (rest.length - k) = rest.drop k := List.take_of_length_le (by simp)
      rw [e1, e2] at this ⊢
      simpa using this
end Go.Proofs.Ytchoppeoaehgnaa
