/- The document's running sum: made, written to, asked. -/
import Derived.Test.YtkagmoaapampgaaDoorBench
import Derived.Test.YtkagmoaapampgaaDoorQuiet
import Derived.Deep.MidRow
namespace Go.Proofs.YtkagmoaapampgaaDoor
open Go.RowKit Go.Lib Go.Joins Base
set_option linter.unusedVariables false
set_option linter.unusedSimpArgs false

theorem rc8 (F : List UInt32) (A : Nat) (R : ByteArray) (h : F.length = 8) : (rcells F A R)[8]? = some (.int .i64 (A : Int)) := by
  unfold rcells; rw [List.getElem?_append_right (by rw [icells_len]; omega), icells_len, h]; rfl
theorem rc9 (F : List UInt32) (A : Nat) (R : ByteArray) (h : F.length = 8) : (rcells F A R)[9]? = some (.string R) := by
  unfold rcells; rw [List.getElem?_append_right (by rw [icells_len]; omega), icells_len, h]; rfl
theorem rc9_set (F : List UInt32) (A : Nat) (R R' : ByteArray) (h : F.length = 8) : (rcells F A R).set 9 (.string R') = rcells F A R' := by
  unfold rcells
  have e : (icells F).length = 8 := by rw [icells_len]; exact h
  rw [List.set_append_right _ _ (by omega), e]; rfl
theorem RH.c8 {w : World} {r : Nat} {F : List UInt32} {A : Nat} {R : ByteArray} (h : RH w r F A R) (hF : F.length = 8) : w.cell? ⟨r, 8, none⟩ = some (.int .i64 (A : Int)) := by
  have := At.cell h 8; rw [rc8 _ _ _ hF] at this; exact this
theorem RH.c9 {w : World} {r : Nat} {F : List UInt32} {A : Nat} {R : ByteArray} (h : RH w r F A R) (hF : F.length = 8) : w.cell? ⟨r, 9, none⟩ = some (.string R) := by
  have := At.cell h 9; rw [rc9 _ _ _ hF] at this; exact this
theorem RH.range {w : World} {r : Nat} {F : List UInt32} {A : Nat} {R : ByteArray} (h : RH w r F A R) : w.rangeAt r 0 (icells F) := by
  intro j v hj
  have hl : j < (icells F).length := (List.getElem?_eq_some_iff.1 hj).1
  rw [Nat.zero_add, At.cell h, rcells, List.getElem?_append_left hl]
  exact hj
theorem rnewh_any (w : World) : Calls Tryd.prog 33 #[] w fun e w' => ∃ r, e = .returned (.pointer (some ⟨r, 0, none⟩)) ∧ w.heap.size ≤ r ∧ RH w' r firstL 0 ⟨#[]⟩ ∧ Fr [] w w' := by
  have c1 := fun w => rfirst_any w
  go_enter Tryd.func33, Tryd.ntmps33
  go_wp2_with (first
    | (go_at_call 28; refine (c1 _).mono ?_; rintro e w2 ⟨rfl, f2⟩)
    | refine wpList_built2 rfl 82 _ rfl (rcells firstL 0 ⟨#[]⟩).toArray (by kernel_rfl) ?_
    | fail)
  have A1 := At.alloc_new w2 82 (rcells firstL 0 ⟨#[]⟩).toArray
  rw [List.toList_toArray] at A1
  go_ret
  exact ⟨_, rfl, f2.size, A1, f2.trans (Fr.alloc _ _ _)⟩
theorem rcount_any (r : Nat) (F : List UInt32) (A : Nat) (R : ByteArray) (hF : F.length = 8) (hs : A + R.size ≤ 1099511627776) (w : World) (h : RH w r F A R) :
    Calls Tryd.prog 39 #[.pointer (some ⟨r, 0, none⟩)] w fun e w' => e = .returned (.int .i64 ((A + R.size : Nat) : Int)) ∧ Fr [] w w' := by
  have c8 := h.c8 hF
  have c9 := h.c9 hF
  have w1 : IntKind.i64.wrap ((A : Int) + R.size) = (A : Int) + R.size := IntWalk.i64_in _ (by omega)
  have e1 : ((A + R.size : Nat) : Int) = (A : Int) + R.size := by omega
  rw [e1]
  go_enter Tryd.func39, Tryd.ntmps39
  go_wp2_with fail
  go_region
  go_wp2_with fail
  go_ret
  exact ⟨rfl, Fr.drewN _ _ _⟩
theorem rwrite_any (r : Nat) (F : List UInt32) (A : Nat) (R d : ByteArray) (hF : F.length = 8) (hs : A + R.size ≤ 1099511627776) (hd : d.size ≤ 140737488355328) (w : World) (h : RH w r F A R) :
    Calls Tryd.prog 37 #[.pointer (some ⟨r, 0, none⟩), .string d] w fun e w' =>
      (1099511627776 < A + R.size + d.size ∧ e = .returned (.int .i64 3) ∧ Fr [] w w') ∨ (A + R.size + d.size ≤ 1099511627776 ∧ e = .returned (.int .i64 0) ∧ RH w' r F A (R ++ d) ∧ Fr [r] w w') := by
  have c8 := h.c8 hF
  have c9 := h.c9 hF
  have z9 := At.frozen h 9
  have w1 : IntKind.i64.wrap ((A : Int) + R.size) = (A : Int) + R.size := IntWalk.i64_in _ (by omega)
  have w2 : IntKind.i64.wrap ((A : Int) + R.size + d.size) = (A : Int) + R.size + d.size := IntWalk.i64_in _ (by omega)
  have k1 : ¬ 9223372036854775807 < R.size + d.size := by omega
  by_cases hl : 1099511627776 < A + R.size + d.size
  · have l1 : (1099511627776 : Int) < (A : Int) + R.size + d.size := by omega
    have HL := Lib.hid hl
    clear hl
    go_enter Tryd.func37, Tryd.ntmps37
    go_wp2_with fail
    go_region
    go_wp2_with fail
    go_ret
    exact .inl ⟨HL.out, rfl, Fr.drewN _ _ _⟩
  · have l1 : ¬ (1099511627776 : Int) < (A : Int) + R.size + d.size := by omega
    have HL := Lib.hid hl
    clear hl
    go_enter Tryd.func37, Tryd.ntmps37
    go_wp2_with fail
    go_region
    go_wp2_with fail
    have hs := (At.setCell h 9 (.string (R ++ d)))
    rw [rc9_set _ _ _ _ hF] at hs
    go_ret
    exact .inr ⟨by have := HL.out; omega, rfl, hs, (Fr.setCell _ _ _ _ (.inl (by simp))).trans (Fr.drew _ _)⟩
/-- A whole row read, as an operation: by what the variable's reading gives. -/
theorem exec_load {P : Program} {o : Oper} {ev : Operand → Value} {ty : TypeId} {x : Operand} {a : Addr} {v : Value} {w : World} (ho : o.op = .load ty x) (hx : ev x = .pointer (some a)) (h : (loadVar ty a).run P w = .ok v w) :
    (execOp ev o).run P w = .ok (.value v) w := by
  unfold execOp
  simp only [ho, hx, Instr.loadAt, Instr.sureAddr, Sem.run_bind, Sem.run_pure, Result.andThen_ok, h]
/-- What stands in every world behind. -/
theorem RH.row {w w' : World} {r : Nat} {F : List UInt32} {A : Nat} {R : ByteArray} (h : RH w r F A R) (hF : F.length = 8) (f : Fr [] w w') :
    w'.cell? ⟨r, 8, none⟩ = some (.int .i64 (A : Int)) ∧ w'.cell? ⟨r, 9, none⟩ = some (.string R) ∧ (loadVar 58 ⟨r, 0, none⟩).run Tryd.prog w' = .ok (.agg (icells F).toArray) w' ∧ Fr [] w w' := by
  have h' : RH w' r F A R := f.keep h (by simp)
  refine ⟨h'.c8 hF, h'.c9 hF, run_loadVar_mid w' r 0 _ _ _ h'.range Tryd.underlying58 rfl ?_, f⟩
  rw [icells_len, hF]; kernel_rfl
theorem eight_row {w : World} {g : Nat} {X : List UInt32} (hX : X.length = 8) (h : At w g 58 (icells X)) : (Instr.loadAt 58 (.pointer (some ⟨g, 0, none⟩))).run Tryd.prog w = .ok (.agg (icells X).toArray) w := by
  refine run_loadAt_mid w g 0 _ _ _ (fun j v hj => by rw [Nat.zero_add, h.cell]; exact hj) Tryd.underlying58 rfl ?_
  rw [icells_len, hX]; kernel_rfl
end Go.Proofs.YtkagmoaapampgaaDoor
