/- Copies into the middle of a block, and rows stored there. -/
import Derived.Test.YtichgiecohhmgaaDoorOwn
import Derived.Test.YtichgiecohhmgaaDoorRow
import Derived.Deep.MidRow
namespace Go.Proofs.YtichgiecohhmgaaDoor
open Go.RowKit Go.Lib Go.Joins Base
set_option linter.unusedVariables false
set_option linter.unusedSimpArgs false

/-- copy of as many bytes of a string as there is room for. -/
theorem run_copy_cut {P : Program} (w : World) (dT sT ty elem : TypeId) (g o dLen dCap : Nat) (s : ByteArray) (cur : Array Value) (t : TypeId)
    (hu : P.underlying dT = some (.slice elem)) (hs : (P.info? elem).map (·.size) = some 1) (hg : w.heap[g]? = some (.cells cur t (0, 0))) (m : Nat) (hm : m = min s.size dLen) (hfit : o + m ≤ cur.size) :
    (Builtin.copy_ #[dT, sT] ty #[.slice (some ⟨g, o, none⟩) dLen dCap, .string s]).run P w =
      .ok (goInt m) (w.setRow g (cur.toList.take o ++ byteCells (s.data.toList.take m) ++ cur.toList.drop (o + m)).toArray) := by
  have hlen : (byteCells (s.data.toList.take m)).length = m := by rw [byteCells_length, List.length_take, ← size_eq]; omega
  have hst := run_storeCells_at P g o t (byteCells (s.data.toList.take m)) 0 cur w hg (by rw [hlen]; simpa using hfit) (byteCells_one _)
  have hmin : Nat.min s.size dLen = m := hm.symm
  have htk : List.take m (List.map (fun b : UInt8 => Value.int IntKind.u8 (b.toNat : Int)) s.data.toList) = byteCells (s.data.toList.take m) := by
    rw [byteCells, List.map_take]
  rw [hlen] at hst
  simp only [Nat.add_zero] at hst
  cases hq : P.info? elem with
  | none => simp [hq] at hs
  | some i =>
    simp [Builtin.copy_, run_underlying hu, Builtin.lenOf, Builtin.firstCells, sizeOf, typeInfo, hq, hmin]
    rw [htk, hst]
    simp [Result.andThen]

theorem set_cut {α : Type} (A B vs : List α) (x v : α) : ((A ++ x :: B).set A.length v).take (A.length + 1) ++ vs ++ ((A ++ x :: B).set A.length v).drop (A.length + 1 + vs.length) = (A ++ x :: B).take A.length ++ (v :: vs) ++ (A ++ x :: B).drop (A.length + (v :: vs).length) := by
  have e1 : (A ++ x :: B).set A.length v = A ++ v :: B := by rw [List.set_append_right _ _ (Nat.le_refl _)]; simp
  rw [e1, List.take_length_add_append, Nat.add_assoc, List.drop_length_add_append, List.take_left, List.drop_length_add_append, List.length_cons, Nat.add_comm 1 vs.length]
  simp
theorem At.setCells {g : Nat} {T : TypeId} : ∀ (vs : List Value) (o : Nat) (w : World) (cs : List Value), At w g T cs → o + vs.length ≤ cs.length → At (w.setCells g o vs) g T (cs.take o ++ vs ++ cs.drop (o + vs.length))
  | [], o, w, cs, h, _ => by simpa [World.setCells] using h
  | v :: vs, o, w, cs, h, hl => by
    have h1 := h.setCell o v
    have h2 := At.setCells vs (o + 1) _ _ h1 (by simp at hl ⊢; omega)
    have hlt : o < cs.length := by simp at hl; omega
    have e : (cs.set o v).take (o + 1) ++ vs ++ (cs.set o v).drop (o + 1 + vs.length) = cs.take o ++ (v :: vs) ++ cs.drop (o + (v :: vs).length) := by
      have l1 : (cs.take o).length = o := by simp; omega
      have l2 : cs = cs.take o ++ cs[o] :: cs.drop (o + 1) := by rw [← List.drop_eq_getElem_cons hlt, List.take_append_drop]
      have := set_cut (cs.take o) (cs.drop (o + 1)) vs cs[o] v
      rw [← l2, l1] at this
      exact this
    rw [e] at h2
    exact h2
theorem Fr.setCells {g : Nat} {S : List Nat} (hS : g ∈ S) : ∀ (vs : List Value) (o : Nat) (w : World), Fr S w (w.setCells g o vs)
  | [], o, w => Fr.refl _ _
  | v :: vs, o, w => (Fr.setCell S w ⟨g, o, none⟩ v (.inl hS)).trans (Fr.setCells hS vs (o + 1) _)

/-- A value built out of parts, when what comes out is known. -/
theorem wpList_built {P : Program} {ops : Array Oper} {rest : List Oper} {o : Oper} {a : Act} {w : World} {Q : Exit → Act → World → Prop} (hg : o.guard = none) (t : TypeId) (parts : Array (Nat × Operand)) (ho : o.op = .build t parts) (cells : Array Value)
    (hb : P.built t (parts.map fun (i, x) => (i, a.eval x)).toList = some cells) (h : wpList P ops Q rest (a.put o.dst (.agg cells)) w) : wpList P ops Q (o :: rest) a w := by
  refine wpList_build hg t parts ho (by rw [hb]; rfl) ?_
  rw [hb]; exact h
theorem extract_tail (k : ByteArray) (a n : Nat) (h : k.size = n) : (k.extract a n).data.toList = k.data.toList.drop a := by
  rw [ByteArray.data_extract, Array.toList_extract, List.extract_eq_take_drop, List.take_of_length_le]
  have : k.data.toList.length = k.size := by simp
  rw [List.length_drop]; omega
end Go.Proofs.YtichgiecohhmgaaDoor
