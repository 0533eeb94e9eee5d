/- Bytes made of a string: the row, and the mark behind its last cell; bytes as the walk spells them. No program here. -/
import Derived.Test.YthalpgandfbkdaaOwn
import Derived.Test.YthalpgandfbkdaaBytes
import Derived.Laws.IdiomStrings
namespace Go.Proofs.Ythalpgandfbkdaa.Base
open Go.RowKit Go.Lib
set_option linter.unusedVariables false
set_option linter.unusedSimpArgs false

/-- Block g holds just these cells, of element type T; the place behind the last one bears the mark. -/
def AtS (w : World) (g : Nat) (T : TypeId) (cs : List Value) : Prop := w.heap[g]? = some (.cells cs.toArray T (cs.length, cs.length + 1))
theorem AtS.out {w : World} {g T cs} (h : AtS w g T cs) : w.heap[g]? = some (.cells cs.toArray T (cs.length, cs.length + 1)) := h
theorem AtS.lt {w : World} {g T cs} (h : AtS w g T cs) : g < w.heap.size := by
  rcases Nat.lt_or_ge g w.heap.size with h' | h'
  · exact h'
  · simp [AtS, Array.getElem?_eq_none h'] at h
theorem AtS.cell {w : World} {g T cs} (h : AtS w g T cs) (i : Nat) : w.cell? ⟨g, i, none⟩ = cs[i]? := by
  simp [World.cell?, h.out]
theorem AtS.frozen {w : World} {g T cs} (h : AtS w g T cs) (i : Nat) (hi : i < cs.length) : w.frozen? ⟨g, i, none⟩ = false := by
  simp [World.frozen?, h.out]; omega
theorem AtS.alloc {w : World} {g T cs} (h : AtS w g T cs) (o : Obj) : AtS (w.alloc o) g T cs := by
  unfold AtS; rw [Below.heap_alloc _ _ _ h.lt]; exact h
theorem AtS.setCell {w : World} {g T cs} (h : AtS w g T cs) (i : Nat) (v : Value) : AtS (w.setCell ⟨g, i, none⟩ v) g T (cs.set i v) := by
  unfold AtS
  simp only [World.setCell, Array.getElem?_modify, if_true, h.out]
  simp
theorem AtS.setCell_other {w : World} {g T cs} (h : AtS w g T cs) {a : Addr} (hne : g ≠ a.block) (v : Value) : AtS (w.setCell a v) g T cs := by
  unfold AtS; rw [Below.heap_setCell _ _ _ _ hne]; exact h
theorem AtS.drew {w : World} {g T cs} (h : AtS w g T cs) : AtS w.drew g T cs := h
theorem AtS.drewN {w : World} {g T cs} (h : AtS w g T cs) (n : Nat) : AtS (w.drewN n) g T cs := h
theorem Fr.keepS {S : List Nat} {a b : World} (h : Fr S a b) {g T cs} (hg : AtS a g T cs) (hS : g ∉ S) : AtS b g T cs := by
  unfold AtS; rw [h.block g hg.lt hS]; exact hg

/-- []byte(s). -/
theorem run_ofStr {P : Program} (w : World) (src dst e : TypeId) (s : ByteArray) (hs : P.underlying src = some .string) (hd : P.underlying dst = some (.slice e)) (he : P.underlying e = some (.int .u8)) :
    ∃ cap rest W, s.size ≤ cap ∧ (convert src dst (.string s)).run P w = .ok (.slice (some ⟨w.heap.size, 0, none⟩) s.size cap) W ∧ AtS W w.heap.size e (byteCells s.data.toList ++ rest) ∧ (∀ S, Fr S w W) ∧ W.heap.size = w.heap.size + 1 := by
  refine ⟨grownCap w s.size 0 e, List.replicate (grownCap w s.size 0 e - s.size) (.int .u8 0), _, grownCap_ge _ _ _ _, run_bytes_of_string w src dst e s hs hd he, ?_, fun S => (Fr.drew S w).trans (Fr.alloc S _ _), by simp⟩
  have e1 : bytesRow s (grownCap w s.size 0 e) = (byteCells s.data.toList ++ List.replicate (grownCap w s.size 0 e - s.size) (Value.int .u8 0)).toArray := by
    apply Array.toList_inj.1
    simp [bytesRow, byteCells]
  rw [e1, List.size_toArray]
  unfold AtS
  show (w.heap.push _)[w.heap.size]? = _
  simp

theorem byteCells_get (l : List UInt8) (i : Nat) (h : i < l.length) : (byteCells l)[i]? = some (.int .u8 (bt (l.getD i 0))) := by
  simp [byteCells, List.getD, h, bt]
theorem byteCells_set (l : List UInt8) (i : Nat) (x : UInt8) : (byteCells l).set i (.int .u8 (bt x)) = byteCells (l.set i x) := by
  simp [byteCells, List.map_set, bt]
theorem bt_lt (x : UInt8) : 0 ≤ bt x ∧ bt x < 256 := by unfold bt; have := x.toNat_lt; omega
section
variable (t : TypeId) (a b : UInt8)
@[go_sem high] theorem binOp_xor8 : binOp .xor t (.int .u8 (bt a)) (.int .u8 (bt b)) = pure (.int .u8 (bt (a ^^^ b))) := by
  have : bits .xor .u8 (bt a) (bt b) = bt (a ^^^ b) := by
    unfold bt; rw [bits8_xor _ _ a.toNat_lt b.toNat_lt, UInt8.toNat_xor]
  rw [← this]; simp [binOp, intBits_xor]
@[go_sem high] theorem u8_btb : IntKind.u8.wrap (bt b) = bt b := wrap8_nat _ b.toNat_lt
@[go_sem high] theorem i64_btb : IntKind.i64.wrap (bt b) = bt b := wrapI_nat _ (by have := b.toNat_lt; omega)
end
end Go.Proofs.Ythalpgandfbkdaa.Base
