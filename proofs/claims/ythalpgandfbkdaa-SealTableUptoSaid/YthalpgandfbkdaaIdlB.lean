/- The ideal sealer: made, asked. -/
import Derived.Test.YthalpgandfbkdaaIdlA
import Derived.Test.YthalpgandfbkdaaUntil
namespace Go.Proofs.Ythalpgandfbkdaa
open Go.RowKit Go.Lib Go.Joins Base Go.Maps
set_option linter.unusedVariables false
set_option linter.unusedSimpArgs false

theorem lawS : Keyed Try.prog 9 := string_keyed Try.underlying9
theorem zeroI (w : World) : (zeroValue 3).run Try.prog w = .ok (.int .i64 0) w := by kernel_rfl
theorem shape_at {w : World} {g T cs} (h : At w g T cs) : w.shape? g = some (T, cs.length) := by
  simp [World.shape?, At.out h]
/-- The address of a field without cells. -/
theorem part0 {w : World} {p : Nat} {cs : List Value} (h : At w p 62 cs) : (partAt ⟨p, 0, none⟩ 0 0).run Try.prog w = .ok ⟨p, 0, none⟩ w := by
  have hs := shape_at h
  have b0 : (byteOf ⟨p, 0, none⟩).run Try.prog w = .ok 0 w := by
    have k : Try.prog.cellsOf 62 = 2 := by kernel_rfl
    have k2 : byteOfCell Try.prog Try.prog.depth 62 0 = some 0 := by kernel_rfl
    simp [byteOf, noView, viewAt, Sem.run_bind, run_shape, hs, Result.andThen, k, k2]
  simp [partAt, Sem.run_bind, b0, Result.andThen]
/-- The table of the tags, as it is read. -/
def Tags (w : World) (b n : Nat) (D : DataW Unit) : Prop := w.ownsMap Try.prog 9 (plainElem Try.prog 3) b n D
set_option maxRecDepth 100000 in
set_option maxHeartbeats 2000000 in
theorem new_any (w : World) :
    Calls Try.prog 6 #[.slice none 0 0] w fun e w' => ∃ p b, e = .returned (.tuple #[.pointer (some ⟨p, 0, none⟩), .int .i64 0]) ∧ p ≠ b ∧ w.heap.size ≤ p ∧ w.heap.size ≤ b ∧ At w' p 62 [.slice none 0 0, .map (some b)] ∧ Tags w' b 0 (.map []) ∧ Fr [] w w' := by
  have hmm := @run_makeMap Try.prog
  go_enter Try.func6, Try.ntmps6
  go_wp2_with fail
  refine wp_loop_rounds 1 ?_
  rw [rounds_succ]
  go_wp2_with fail
  go_ret2
  have A := At.alloc_new (w.alloc (.map #[] 0)) 62 #[Value.slice none 0 0, .map (some w.heap.size)]
  have e : (w.alloc (.map #[] 0)).heap.size = w.heap.size + 1 := by simp
  rw [e] at A
  exact ⟨w.heap.size + 1, w.heap.size, rfl, by omega, by omega, Nat.le_refl _, A, (World.ownsMap_made _ _ _ _).alloc _, (Fr.alloc _ _ _).trans (Fr.alloc _ _ _)⟩
set_option maxRecDepth 100000 in
set_option maxHeartbeats 2000000 in
theorem coins_any (p n : Nat) (cs : List Value) (hn : n ≤ 1048576) (w : World) (hA : At w p 62 cs) :
    Calls Try.prog 20 #[.pointer (some ⟨p, 0, none⟩), .int .i64 n] w fun e w' => e = .returned (.int .i64 (n + 40)) ∧ Fr [] w w' := by
  have c1 := fun w => sizeOK_any n (by omega) w
  have hpa := part0 hA
  have w1 : IntKind.i64.wrap ((n : Int) + 40) = (n : Int) + 40 := IntWalk.i64_in _ (by omega)
  go_enter Try.func20, Try.ntmps20
  go_wp2_with (first
    | (go_at_call 22; refine (c1 _).mono ?_; rintro e w2 ⟨rfl, f2⟩)
    | fail)
  go_ret
  exact ⟨rfl, f2⟩
set_option maxRecDepth 100000 in
set_option maxHeartbeats 2000000 in
theorem seals_any (k : Int) (hk : 1 ≤ k ∧ k ≤ 3) (x t c : ByteArray) (hx : x.size ≤ 64) (ht : t.size ≤ 1048576) (hc : c.size ≤ 2097152) (w : World) (m : Nat) (hm : m = c.size) :
    Calls Try.prog 23 #[.agg #[], .int .i64 k, .string x, .string t, .string c, .int .i64 m] w fun e w' => e = .returned (.int .i64 0) ∧ Fr [] w w' := by
  have c1 := fun w => place_any k hk x hx w
  have c2 := fun w => sizeOK_any t.size (by omega) w
  have b1 : ((c.size : Int) != m) = false := by simp [hm]
  clear hm
  go_enter Try.func23, Try.ntmps23
  go_wp2_with (first
    | (go_at_call 26; refine (c1 _).mono ?_; rintro e w2 ⟨rfl, f2⟩)
    | (go_at_call 22; refine (c2 _).mono ?_; rintro e w3 ⟨rfl, f3⟩)
    | fail)
  go_ret
  exact ⟨rfl, ((Fr.alloc _ _ _).trans f2).trans f3⟩
end Go.Proofs.Ythalpgandfbkdaa
