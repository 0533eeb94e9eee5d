/- put of chacha: words behind a row of bytes that has room. -/
import Derived.Test.YtichgiecohhmgaaDoorLoad
import Derived.OwnWalk
namespace Go.Proofs.YtichgiecohhmgaaDoor
open Go.RowKit Go.Lib Base
set_option linter.unusedVariables false
set_option linter.unusedSimpArgs false

/-- append of bytes to a row that has room. -/
theorem run_app {P : Program} {t e : TypeId} (ht : P.underlying t = some (.slice e)) (hi : (P.info? e).map (fun i => (i.zero, i.size, i.bytes)) = some (some (.int .u8 0), 1, 1)) (ty : TypeId) (w : World) (g n c h' m c' : Nat) (xs ys : List UInt8) (rest post : List Value) (T : TypeId)
    (hg : At w g e (byteCells xs ++ rest)) (hh : At w h' T (byteCells ys ++ post)) (hn : n = xs.length) (hm : m = ys.length) (hroom : n + m ≤ c) (hr : ys.length ≤ rest.length) :
    (Builtin.append_ #[t, t] ty #[.slice (some ⟨g, 0, none⟩) n c, .slice (some ⟨h', 0, none⟩) m c']).run P w = .ok (.slice (some ⟨g, 0, none⟩) (n + m) c) (w.setRow g (byteCells (xs ++ ys) ++ rest.drop ys.length).toArray) := by
  subst hn hm
  obtain ⟨i, hi, hz0, hz1, hz2⟩ := info_parts hi
  have := run_append_room (P := P) w t ty e i ht hi g xs.length c _ hg.out ⟨h', 0, none⟩ ys.length c' (byteCells ys) (by rw [byteCells_length, hz1, Nat.mul_one]) (by
    intro j u hj
    have hlt : j < (byteCells ys).length := by
      rcases Nat.lt_or_ge j (byteCells ys).length with h | h
      · exact h
      · simp [List.getElem?_eq_none h] at hj
    rw [addr_add', hh.cell, Nat.zero_add, List.getElem?_append_left hlt]; exact hj) (byteCells_one _) hroom (by rw [hz1, byteCells_length]; simp [byteCells_length]; exact hr)
  rw [this, hz1, byteCells_length, Nat.mul_one]
  congr 2
  have e1 : List.take xs.length (byteCells xs ++ rest) = byteCells xs := by
    rw [← byteCells_length xs, List.take_left]
  have e2 : List.drop (xs.length + ys.length) (byteCells xs ++ rest) = rest.drop ys.length := by
    rw [← List.drop_drop, ← byteCells_length xs, List.drop_left]
  rw [List.toList_toArray, e1, e2]
  simp [byteCells]

/-- append, by a run that is known. -/
theorem wpList_append_run {P : Program} {ops : Array Oper} {rest : List Oper} {o : Oper} {a : Act} {w : World} {Q : Exit → Act → World → Prop}
    (hg : o.guard = none) (s x : Operand) (t : TypeId) (hop : o.op = Op.call { callee := Callee.builtin Builtin.append, args := #[s, x], argTypes := #[t, t] })
    (vs vx v : Value) (w' : World) (hs : a.eval s = vs) (hx : a.eval x = vx) (hrun : (Builtin.append_ #[t, t] o.type #[vs, vx]).run P w = .ok v w')
    (h : wpList P ops Q rest (a.put o.dst v) w') : wpList P ops Q (o :: rest) a w := by
  refine wpList_plain hg fun K hK' => ?_
  unfold Oper.wp
  simp [execOp, hop, resolve, invoke, builtin, hs, hx, hrun, Result.andThen]
  exact hK' _ _ h

theorem bytes4_len (ws : List UInt32) : (ws.flatMap bytes4).length = 4 * ws.length := by
  induction ws with
  | nil => rfl
  | cons a r ih => rw [List.flatMap_cons, List.length_append, ih]; simp [bytes4]; omega

set_option maxRecDepth 100000 in
set_option maxHeartbeats 1000000 in
theorem put_any (g h o c cw : Nat) (xs : List UInt8) (ws : List UInt32) (rest pre post : List Value) (T : TypeId) (w : World)
    (hg : At w g 5 (byteCells xs ++ rest)) (hh : At w h T (pre ++ wcells ws ++ post)) (ho : pre.length = o) (hne : g ≠ h) (hr : 4 * ws.length ≤ rest.length) (hc : c = xs.length + rest.length) (hsm : c ≤ 1000) (hw : ws.length ≤ cw) :
    Calls Tryd.prog 40 #[.slice (some ⟨g, 0, none⟩) xs.length c, .slice (some ⟨h, o, none⟩) ws.length cw] w fun e w' =>
      e = .returned (.slice (some ⟨g, 0, none⟩) (xs.length + 4 * ws.length) c) ∧ At w' g 5 (byteCells (xs ++ ws.flatMap bytes4) ++ rest.drop (4 * ws.length)) ∧ Fr [g] w w' := by
  have hi5 : (Tryd.prog.info? 5).map (fun i => (i.zero, i.size, i.bytes)) = some (some (.int .u8 0), 1, 1) := by kernel_rfl
  subst hc
  go_enter Tryd.func40, Tryd.ntmps40
  go_wp2_with fail
  go_loopw [0, 9] (fun v0 v9 wr => ∃ i : Nat, i ≤ ws.length ∧ v9 = .int .i64 i ∧ v0 = .slice (some ⟨g, 0, none⟩) (xs.length + 4 * i) (xs.length + rest.length) ∧ At wr g 5 (byteCells (xs ++ (ws.take i).flatMap bytes4) ++ rest.drop (4 * i)) ∧ At wr h T (pre ++ wcells ws ++ post) ∧ Fr [g] w wr) (fun _ v _ => ws.length - (intOf v).toNat)
  case atStart => exact ⟨0, by omega, rfl, by simp, by simpa using hg, hh, Fr.refl _ _⟩
  case round =>
    obtain ⟨i, hi, rfl, rfl, h0, h1, hf⟩ := hrel
    by_cases hl : i < ws.length
    · have hc1 := h1.cell (o + i)
      have hlt := h0.lt
      generalize hx : ws[i] = x
      rw [List.append_assoc, List.getElem?_append_right (by omega), ← ho, Nat.add_sub_cancel_left, List.getElem?_append_left (by simpa [wcells] using hl), wcells_get _ _ hl, List.getD_eq_getElem?_getD, List.getElem?_eq_getElem hl, Option.getD_some, hx, ho] at hc1
      have A2 := At.alloc_new wr 5 #[Value.int .u8 (bt x.toUInt8), Value.int .u8 (bt (x >>> 8).toUInt8), Value.int .u8 (bt (x >>> 16).toUInt8), Value.int .u8 (bt (x >>> 24).toUInt8)]
      have A2' : At _ wr.heap.size 5 (byteCells (bytes4 x) ++ []) := A2
      have h0' := h0.alloc (.cells #[Value.int .u8 (bt x.toUInt8), Value.int .u8 (bt (x >>> 8).toUInt8), Value.int .u8 (bt (x >>> 16).toUInt8), Value.int .u8 (bt (x >>> 24).toUInt8)] 5)
      have hap := run_app Tryd.underlying35 hi5 35 _ g (xs.length + 4 * i) (xs.length + rest.length) wr.heap.size 4 4 _ _ _ _ _ h0' A2' (by rw [List.length_append, bytes4_len, List.length_take]; omega) rfl (by omega) (by simp [bytes4]; omega)
      go_wp2_with (at_builtin; refine wpList_append_run rfl _ _ _ rfl _ _ _ _ rfl rfl hap ?_)
      refine ⟨⟨i + 1, by omega, by simp, by rw [show xs.length + 4 * (i + 1) = xs.length + 4 * i + 4 by omega], ?_, ?_, ?_⟩, by simp only [intOf]; omega⟩
      · have := h0'.setRow (byteCells (xs ++ (List.flatMap bytes4 (List.take i ws) ++ bytes4 x)) ++ List.drop (4 * i + (bytes4 x).length) rest).toArray
        rw [List.toList_toArray] at this
        have e : ws.take (i + 1) = ws.take i ++ [x] := by rw [List.take_add_one, List.getElem?_eq_getElem hl, hx]; rfl
        rw [e, List.flatMap_append, show 4 * (i + 1) = 4 * i + (bytes4 x).length by simp [bytes4]; omega]
        simpa using this
      · exact (h1.alloc _).setRow_other (Ne.symm hne) _
      · exact (hf.trans (Fr.alloc _ _ _)).trans (Fr.setRow _ _ _ _ (.inl (by simp)))
    · obtain rfl : i = ws.length := by omega
      go_wp2_with fail
      go_ret
      exact ⟨rfl, by simpa using h0, hf⟩
end Go.Proofs.YtichgiecohhmgaaDoor
