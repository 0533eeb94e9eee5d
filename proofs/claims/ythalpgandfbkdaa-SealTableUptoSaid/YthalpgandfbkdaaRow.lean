/- Rows of bytes with room behind them; pieces of texts; zeros that are filled. No program here. -/
import Derived.Test.YthalpgandfbkdaaStr
import Derived.OwnWalk
namespace Go.Proofs.Ythalpgandfbkdaa.Base
open Go.RowKit Go.Lib
set_option linter.unusedVariables false
set_option linter.unusedSimpArgs false

theorem addr_add' (b o k : Nat) : (⟨b, o, none⟩ : Addr).add k = ⟨b, o + k, none⟩ := by unfold Addr.add; split <;> simp_all
theorem extract_rest (k : ByteArray) (a n : Nat) (h : k.size = n) : (k.extract a n).data.toList = k.data.toList.drop a := by
  have hl : k.data.toList.length = n := by simpa using h
  rw [ByteArray.data_extract, Array.toList_extract, List.extract_eq_take_drop]
  apply List.take_of_length_le
  simp; omega
/-- append of bytes to a row that has room. -/
theorem run_app {P : Program} {t e : TypeId} (ht : P.underlying t = some (.slice e)) (hi : (P.info? e).map (fun i => (i.zero, i.size, i.bytes)) = some (some (.int .u8 0), 1, 1)) (ty : TypeId) (w : World) (g n c h' m c' : Nat) (xs ys : List UInt8) (rest post : List Value) (T : TypeId)
    (hg : At w g e (byteCells xs ++ rest)) (hh : At w h' T (byteCells ys ++ post)) (hn : n = xs.length) (hm : m = ys.length) (hroom : n + m ≤ c) (hr : ys.length ≤ rest.length) :
    (Builtin.append_ #[t, t] ty #[.slice (some ⟨g, 0, none⟩) n c, .slice (some ⟨h', 0, none⟩) m c']).run P w = .ok (.slice (some ⟨g, 0, none⟩) (n + m) c) (w.setRow g (byteCells (xs ++ ys) ++ rest.drop ys.length).toArray) := by
  subst hn hm
  obtain ⟨i, hi, hz0, hz1, hz2⟩ := info_parts hi
  have := run_append_room (P := P) w t ty e i ht hi g xs.length c _ hg.out ⟨h', 0, none⟩ ys.length c' (byteCells ys) (by rw [byteCells_length, hz1, Nat.mul_one]) (by
    intro j u hj
    have hlt : j < (byteCells ys).length := by
      rcases Nat.lt_or_ge j (byteCells ys).length with h | h
      · exact h
      · simp [List.getElem?_eq_none h] at hj
    rw [addr_add', hh.cell, Nat.zero_add, List.getElem?_append_left hlt]; exact hj) (byteCells_one _) hroom (by rw [hz1, byteCells_length]; simp [byteCells_length]; exact hr)
  rw [this, hz1, byteCells_length, Nat.mul_one]
  congr 2
  have e1 : List.take xs.length (byteCells xs ++ rest) = byteCells xs := by
    rw [← byteCells_length xs, List.take_left]
  have e2 : List.drop (xs.length + ys.length) (byteCells xs ++ rest) = rest.drop ys.length := by
    rw [← List.drop_drop, ← byteCells_length xs, List.drop_left]
  rw [List.toList_toArray, e1, e2]
  simp [byteCells]

/-- append, by a run that is known. -/
theorem wpList_append_run {P : Program} {ops : Array Oper} {rest : List Oper} {o : Oper} {a : Act} {w : World} {Q : Exit → Act → World → Prop}
    (hg : o.guard = none) (s x : Operand) (t : TypeId) (hop : o.op = Op.call { callee := Callee.builtin Builtin.append, args := #[s, x], argTypes := #[t, t] })
    (vs vx v : Value) (w' : World) (hs : a.eval s = vs) (hx : a.eval x = vx) (hrun : (Builtin.append_ #[t, t] o.type #[vs, vx]).run P w = .ok v w')
    (h : wpList P ops Q rest (a.put o.dst v) w') : wpList P ops Q (o :: rest) a w := by
  refine wpList_plain hg fun K hK' => ?_
  unfold Oper.wp
  simp [execOp, hop, resolve, invoke, builtin, hs, hx, hrun, Result.andThen]
  exact hK' _ _ h

variable (m : Nat)
/-- The other way round: zeros that are filled. -/
def fillUp (l : List UInt8) (m : Nat) : List UInt8 := l.take m ++ zerosB (l.length - m)
theorem fillUp_zero (l : List UInt8) : fillUp l 0 = zerosB l.length := by simp [fillUp]
theorem fillUp_len (l : List UInt8) (h : m ≤ l.length) : (fillUp l m).length = l.length := by simp [fillUp, zerosB]; omega
theorem fillUp_set (l : List UInt8) (h : m < l.length) : (fillUp l m).set m (l.getD m 0) = fillUp l (m + 1) := by
  have e : (l.take m).length = m := by simp; omega
  unfold fillUp
  rw [List.set_append_right _ _ (by omega), e, Nat.sub_self, List.take_add_one, List.getElem?_eq_getElem h]
  rw [show l.length - m = (l.length - (m + 1)) + 1 by omega]
  simp only [zerosB, List.replicate_succ, List.set_cons_zero, List.getD, List.getElem?_eq_getElem h, Option.getD_some, Option.toList, List.append_assoc, List.cons_append, List.nil_append]
theorem fillUp_all (l : List UInt8) : fillUp l l.length = l := by simp [fillUp, zerosB]
end Go.Proofs.Ythalpgandfbkdaa.Base
