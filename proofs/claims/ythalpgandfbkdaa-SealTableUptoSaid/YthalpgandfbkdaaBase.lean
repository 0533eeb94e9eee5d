/- My own words on blocks: what a block holds, and what of the old blocks is as it was. -/
import Derived.WalkKit
import Derived.WalkSpells
import Derived.WalkLawsBesides
import Derived.Deep.QuietTactic
import Derived.BigQuiet
import Derived.StillTailTactics
import Derived.Lib.BufferWrite
import Derived.Lib.SliceRun
import Derived.Lib.Hide
namespace Go.Proofs.Ythalpgandfbkdaa.Base
open Go.RowKit Go.Lib
set_option linter.unusedVariables false
set_option linter.unusedSimpArgs false

/-- Block g holds just these cells, of element type T, none of them frozen. -/
def At (w : World) (g : Nat) (T : TypeId) (cs : List Value) : Prop := w.heap[g]? = some (.cells cs.toArray T (0, 0))

theorem At.out {w : World} {g T cs} (h : At w g T cs) : w.heap[g]? = some (.cells cs.toArray T (0, 0)) := h
theorem At.lt {w : World} {g T cs} (h : At w g T cs) : g < w.heap.size := by
  rcases Nat.lt_or_ge g w.heap.size with h' | h'
  · exact h'
  · simp [At, Array.getElem?_eq_none h'] at h
theorem At.cell {w : World} {g T cs} (h : At w g T cs) (i : Nat) : w.cell? ⟨g, i, none⟩ = cs[i]? := by
  simp [World.cell?, At.out h]
theorem At.frozen {w : World} {g T cs} (h : At w g T cs) (i : Nat) : w.frozen? ⟨g, i, none⟩ = false := by
  simp [World.frozen?, At.out h]
theorem At.inj {w : World} {g T T' cs cs'} (h : At w g T cs) (h' : At w g T' cs') : cs = cs' := by
  have := h.out.symm.trans h'.out
  simpa using (Option.some.inj this) |> fun e => by injection e with e1 e2 e3; simpa using e1

/-- Of the blocks that were there, those outside S are as they were. -/
structure Fr (S : List Nat) (w w' : World) : Prop where
  os : w'.os = w.os
  tape : w'.tape = w.tape
  output : w'.output = w.output
  size : w.heap.size ≤ w'.heap.size
  block : ∀ k, k < w.heap.size → k ∉ S → w'.heap[k]? = w.heap[k]?

theorem Fr.refl (S : List Nat) (w : World) : Fr S w w := ⟨rfl, rfl, rfl, Nat.le_refl _, fun _ _ _ => rfl⟩
theorem Fr.trans {S : List Nat} {a b c : World} (h : Fr S a b) (k : Fr S b c) : Fr S a c :=
  ⟨k.os.trans h.os, k.tape.trans h.tape, k.output.trans h.output, Nat.le_trans h.size k.size,
   fun i hi hS => (k.block i (Nat.lt_of_lt_of_le hi h.size) hS).trans (h.block i hi hS)⟩
theorem Fr.mono {S S' : List Nat} {a b : World} (h : Fr S a b) (hs : ∀ x, x ∈ S → x < a.heap.size → x ∈ S') : Fr S' a b :=
  ⟨h.os, h.tape, h.output, h.size, fun i hi hS => h.block i hi (fun hx => hS (hs i hx hi))⟩
/-- What turns only what is newer than a leaves a's blocks alone. -/
theorem Fr.new {S : List Nat} {a b c : World} (h : Fr [] a b) (k : Fr S b c) (hS : ∀ x, x ∈ S → a.heap.size ≤ x) : Fr [] a c :=
  ⟨k.os.trans h.os, k.tape.trans h.tape, k.output.trans h.output, Nat.le_trans h.size k.size,
   fun i hi _ => (k.block i (Nat.lt_of_lt_of_le hi h.size) (fun hx => by have := hS i hx; omega)).trans (h.block i hi (by simp))⟩
theorem Fr.below {a b : World} (h : Fr [] a b) : Below a.heap.size a b := ⟨h.os, h.tape, h.output, h.size, fun k hk => h.block k hk (by simp)⟩
theorem Fr.ofBelow {a b : World} (h : Below a.heap.size a b) : Fr [] a b := ⟨h.os, h.tape, h.output, h.size, fun k hk _ => h.block k hk⟩
theorem Fr.keep {S : List Nat} {a b : World} (h : Fr S a b) {g T cs} (hg : At a g T cs) (hS : g ∉ S) : At b g T cs := by
  unfold At; rw [h.block g hg.lt hS]; exact hg
theorem Fr.drew (S : List Nat) (w : World) : Fr S w w.drew := ⟨rfl, rfl, rfl, Nat.le_refl _, fun _ _ _ => rfl⟩
theorem Fr.drewN (S : List Nat) (w : World) (n : Nat) : Fr S w (w.drewN n) := ⟨rfl, rfl, rfl, Nat.le_refl _, fun _ _ _ => rfl⟩
theorem Fr.alloc (S : List Nat) (w : World) (o : Obj) : Fr S w (w.alloc o) :=
  ⟨rfl, rfl, rfl, by simp, fun k hk _ => Below.heap_alloc _ _ _ hk⟩
theorem Fr.setCell (S : List Nat) (w : World) (a : Addr) (v : Value) (h : a.block ∈ S ∨ w.heap.size ≤ a.block) : Fr S w (w.setCell a v) :=
  ⟨rfl, rfl, rfl, by simp [World.setCell], fun k hk hS => Below.heap_setCell _ _ _ _ (by rintro rfl; rcases h with h | h; exact hS h; omega)⟩
theorem Fr.setRow (S : List Nat) (w : World) (g : Nat) (cs : Array Value) (h : g ∈ S ∨ w.heap.size ≤ g) : Fr S w (w.setRow g cs) :=
  ⟨rfl, rfl, rfl, by simp, fun k hk hS => setRow_other w g k cs (by rintro rfl; rcases h with h | h; exact hS h; omega)⟩

theorem At.alloc {w : World} {g T cs} (h : At w g T cs) (o : Obj) : At (w.alloc o) g T cs := by
  unfold At; rw [Below.heap_alloc _ _ _ h.lt]; exact h
theorem At.alloc_new (w : World) (T : TypeId) (cs : Array Value) : At (w.alloc (.cells cs T (0, 0))) w.heap.size T cs.toList := by
  unfold At; rw [heap_alloc_new]
theorem At.setCell {w : World} {g T cs} (h : At w g T cs) (i : Nat) (v : Value) : At (w.setCell ⟨g, i, none⟩ v) g T (cs.set i v) := by
  unfold At
  simp only [World.setCell, Array.getElem?_modify, if_true, h.out]
  simp
theorem At.setCell_other {w : World} {g T cs} (h : At w g T cs) {a : Addr} (hne : g ≠ a.block) (v : Value) : At (w.setCell a v) g T cs := by
  unfold At; rw [Below.heap_setCell _ _ _ _ hne]; exact h
theorem At.setRow {w : World} {g T cs} (h : At w g T cs) (cs' : Array Value) : At (w.setRow g cs') g T cs'.toList := by
  unfold At; rw [setRow_heap w g _ cs' T _ h.out]
theorem At.setRow_other {w : World} {g T cs} (h : At w g T cs) {k : Nat} (hne : g ≠ k) (cs' : Array Value) : At (w.setRow k cs') g T cs := by
  unfold At; rw [Go.setRow_other _ _ _ _ hne]; exact h
theorem At.drewN {w : World} {g T cs} (h : At w g T cs) (n : Nat) : At (w.drewN n) g T cs := h
theorem At.drew {w : World} {g T cs} (h : At w g T cs) : At w.drew g T cs := h

@[go_sem] theorem cell_setRow_else (w : World) (g : Nat) (cs : Array Value) (a : Addr) (h : a.block ≠ g) : (w.setRow g cs).cell? a = w.cell? a := cell_setRow_other w g cs a h
@[go_sem] theorem frozen_setRow_else (w : World) (g : Nat) (cs : Array Value) (a : Addr) (h : a.block ≠ g) : (w.setRow g cs).frozen? a = w.frozen? a := by
  simp only [World.frozen?, Go.setRow_other w g a.block cs h]
@[go_sem] theorem setRow_heap_size (w : World) (g : Nat) (cs : Array Value) : (w.setRow g cs).heap.size = w.heap.size := by simp

@[go_sem] theorem cell_alloc_else (w : World) (o : Obj) (a : Addr) (h : a.block ≠ w.heap.size) : (w.alloc o).cell? a = w.cell? a := by
  simp only [World.cell?, World.alloc, Array.getElem?_push, if_neg h]
@[go_sem] theorem frozen_alloc_else (w : World) (o : Obj) (a : Addr) (h : a.block ≠ w.heap.size) : (w.alloc o).frozen? a = w.frozen? a := by
  simp only [World.frozen?, World.alloc, Array.getElem?_push, if_neg h]

@[go_sem] theorem alloc_drewN (w : World) (n : Nat) (o : Obj) : (w.drewN n).alloc o = (w.alloc o).drewN n := rfl
@[go_sem] theorem setCell_drewN (w : World) (n : Nat) (a : Addr) (v : Value) : (w.drewN n).setCell a v = (w.setCell a v).drewN n := rfl
@[go_sem] theorem setRow_drewN (w : World) (n g : Nat) (cs : Array Value) : (w.drewN n).setRow g cs = (w.setRow g cs).drewN n := rfl
@[go_sem] theorem setRow_drew (w : World) (g : Nat) (cs : Array Value) : w.drew.setRow g cs = (w.setRow g cs).drew := rfl

@[simp] theorem at_drewN (w : World) (n g : Nat) (T : TypeId) (cs : List Value) : At (w.drewN n) g T cs ↔ At w g T cs := Iff.rfl
@[simp] theorem at_drew (w : World) (g : Nat) (T : TypeId) (cs : List Value) : At w.drew g T cs ↔ At w g T cs := Iff.rfl

/-- n bytes 0. -/
def zerosB (n : Nat) : List UInt8 := List.replicate n 0
theorem zerosB_length (n : Nat) : (zerosB n).length = n := by simp [zerosB]

section
variable {P : Program} {t e : TypeId}
/-- make([]byte, n): a new block of zeros. -/
theorem run_mk (ht : P.underlying t = some (.slice e)) (hi : (P.info? e).map (fun i => (i.zero, i.size, i.bytes)) = some (some (.int .u8 0), 1, 1)) (n : Nat) (hn : n ≤ 281474976710656) (w : World) :
    (Instr.makeSlice t (.int .i64 n) (.int .i64 n)).run P w = .ok (.slice (some ⟨w.heap.size, 0, none⟩) n n) (w.alloc (.cells (byteCells (zerosB n)).toArray e)) := by
  obtain ⟨i, hi, hz0, hz1, hz2⟩ := info_parts hi
  have := run_make w t e i (.int .u8 0) ht hi hz0 .i64 .i64 n n (by omega) (by omega) (by rw [hz2]; omega) (by omega)
  rw [hz1] at this
  have e2 : madeCells (Value.int IntKind.u8 0).cells (n * 1) = (byteCells (zerosB n)).toArray := by
    apply Array.ext
    · simp [madeCells, zerosB, byteCells]
    · intro k h1 h2; simp [madeCells, Value.cells, Nat.mod_one, zerosB, byteCells]
  rw [Int.toNat_natCast, e2] at this
  exact this

theorem info_size (hi : (P.info? e).map (fun i => (i.zero, i.size, i.bytes)) = some (some (.int .u8 0), 1, 1)) : (P.info? e).map (·.size) = some 1 := by
  obtain ⟨i, hi, hz0, hz1, hz2⟩ := info_parts hi
  simp [hi, hz1]

/-- copy(dst, s), s a string that fits. -/
theorem run_copyS (ht : P.underlying t = some (.slice e)) (hi : (P.info? e).map (fun i => (i.zero, i.size, i.bytes)) = some (some (.int .u8 0), 1, 1)) (sT ty : TypeId) (w : World) (g o n c : Nat) (s : ByteArray) (T : TypeId) (cs : List Value)
    (hg : At w g T cs) (hle : s.size ≤ n) (hfit : o + s.size ≤ cs.length) :
    (Builtin.copy_ #[t, sT] ty #[.slice (some ⟨g, o, none⟩) n c, .string s]).run P w = .ok (goInt s.size) (w.setRow g (cs.take o ++ byteCells s.data.toList ++ cs.drop (o + s.size)).toArray) := by
  have := run_copy_row_string w t sT ty e g o n c s cs.toArray T ht (info_size hi) hg hle (by simpa using hfit)
  simpa using this

/-- copy(dst, src) of n cells, both rows known. -/
theorem run_copyB (ht : P.underlying t = some (.slice e)) (hi : (P.info? e).map (fun i => (i.zero, i.size, i.bytes)) = some (some (.int .u8 0), 1, 1)) (sT ty : TypeId) (w : World) (g o n c : Nat) (g' o' n' c' : Nat) (T T' : TypeId) (cs : List Value) (xs : List UInt8) (pre post : List Value)
    (hg : At w g T cs) (hg' : At w g' T' (pre ++ byteCells xs ++ post)) (ho' : o' = pre.length) (hn : xs.length = Nat.min n' n) (hfit : o + xs.length ≤ cs.length) :
    (Builtin.copy_ #[t, sT] ty #[.slice (some ⟨g, o, none⟩) n c, .slice (some ⟨g', o', none⟩) n' c']).run P w = .ok (goInt xs.length) (w.setRow g (cs.take o ++ byteCells xs ++ cs.drop (o + xs.length)).toArray) := by
  subst ho'
  have := run_copy_row (P := P) w t sT ty e g o n c ⟨g', pre.length, none⟩ n' c' cs.toArray T (byteCells xs) ht (info_size hi) hg (by rw [byteCells_length]; exact hn) (by
    intro j v hj
    have hlt : j < (byteCells xs).length := by
      rcases Nat.lt_or_ge j (byteCells xs).length with h | h
      · exact h
      · simp [List.getElem?_eq_none h] at hj
    have ea : (⟨g', pre.length, none⟩ : Addr).add j = ⟨g', pre.length + j, none⟩ := by unfold Addr.add; split <;> simp_all
    rw [ea, hg'.cell, List.append_assoc, List.getElem?_append_right (by omega), show pre.length + j - pre.length = j from by omega, List.getElem?_append_left hlt]
    exact hj) (by rw [byteCells_length]; simpa using hfit) (byteCells_one _)
  rw [byteCells_length] at this
  exact this

theorem setCells_row {g : Nat} {T : TypeId} : ∀ (vs cs : List Value) (o : Nat) (w : World), At w g T cs → o + vs.length ≤ cs.length → w.setCells g o vs = w.setRow g (cs.take o ++ vs ++ cs.drop (o + vs.length)).toArray
  | [], cs, o, w, h, _ => by simpa [World.setCells] using (setRow_self w g cs.toArray T (0, 0) h.out).symm
  | v :: r, cs, o, w, h, hl => by
    have h1 := h.setCell o v
    have := setCells_row r (cs.set o v) (o + 1) (w.setCell ⟨g, o, none⟩ v) h1 (by simp at hl ⊢; omega)
    rw [World.setCells, this, setCell_eq_setRow w g o _ _ _ v h.out, setRow_setRow]
    have e := list_seg_step cs o v r (by simpa using hl)
    congr 2
    rw [show o + 1 + r.length = o + (r.length + 1) by omega] at *

/-- clear(x) of n cells from o on. -/
theorem run_clearB (ht : P.underlying t = some (.slice e)) (hv : ∀ w, (zeroValue e).run P w = .ok (.int .u8 0) w) (ty : TypeId) (w : World) (g o n c : Nat) (T : TypeId) (cs : List Value)
    (hg : At w g T cs) (hfit : o + n ≤ cs.length) :
    (Builtin.clear_ #[t] ty #[.slice (some ⟨g, o, none⟩) n c]).run P w = .ok (.tuple #[]) (w.setRow g (cs.take o ++ byteCells (zerosB n) ++ cs.drop (o + n)).toArray) := by
  rcases Nat.eq_zero_or_pos n with rfl | hn
  · have := (setRow_self w g cs.toArray T (0, 0) hg.out)
    simp [Builtin.clear_, run_underlying ht, zerosB, byteCells, this]
  · have := run_clear_slice w t e ty (.int .u8 0) ht hv rfl rfl g o n c hn (fun j hj => by rw [hg.cell]; simp; omega) (fun j hj => hg.frozen _)
    rw [this, setCells_row (T := T) _ cs o w hg (by simpa using hfit)]
    simp [zerosB, byteCells]

/-- string(b), b a piece of a row of bytes. -/
theorem run_strB (ht : P.underlying t = some (.slice e)) (he : P.underlying e = some (.int .u8)) {d : TypeId} (hd : P.underlying d = some .string) (w : World) (g o c : Nat) (T : TypeId) (xs : List UInt8) (pre post : List Value)
    (hg : At w g T (pre ++ byteCells xs ++ post)) (ho : o = pre.length) (n : Nat) (hn : n = xs.length) :
    (convert t d (.slice (some ⟨g, o, none⟩) n c)).run P w = .ok (.string ⟨xs.toArray⟩) w := by
  subst ho; subst hn
  have h := run_convert_bytes_arg (P := P) w t e ht he g pre.length xs.length c (xs.map fun x => (x.toNat : Int)) (by simp) (fun i hi => by
    rw [hg.cell, List.append_assoc, List.getElem?_append_right (by omega), show pre.length + i - pre.length = i from by omega, List.getElem?_append_left (by rw [byteCells_length]; exact hi)]
    simp [byteCells, hi]) d hd
  rw [h]
  congr 2
  apply ByteArray.ext
  apply Array.toList_inj.1
  rw [strOfNums_data, List.map_map]
  conv => rhs; rw [← List.map_id xs]
  apply List.map_congr_left
  intro x _
  simp
end
end Go.Proofs.Ythalpgandfbkdaa.Base
