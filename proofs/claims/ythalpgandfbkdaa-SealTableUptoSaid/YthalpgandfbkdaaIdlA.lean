/- The ideal sealer's small functions; lists of texts. -/
import Derived.Test.YthalpgandfbkdaaRow
import Derived.Test.YthalpgandfbkdaaProg
import Derived.Test.YthalpgandfbkdaaUntil
import Derived.Maps.OwnOps
import Derived.Maps.Views
import Derived.Great.BuildSlice
namespace Go.Proofs.Ythalpgandfbkdaa
open Go.RowKit Go.Lib Go.Joins Base Go.Maps
set_option linter.unusedVariables false
set_option linter.unusedSimpArgs false

theorem ba_len (b : ByteArray) : b.data.toList.length = b.size := by simp
theorem str_neq {a b : ByteArray} (h : a ≠ b) : (a.toList == b.toList) = false := by
  rw [ByteArray.toList_eq, ByteArray.toList_eq, beq_eq_false_iff_ne]
  exact fun e => h (ByteArray.ext (Array.toList_inj.1 e))
theorem str_eq {a b : ByteArray} (h : a = b) : (a.toList == b.toList) = true := by rw [h]; exact beq_self_eq_true _
def tcells (ps : List ByteArray) : List Value := ps.map Value.string
theorem tcells_len (ps : List ByteArray) : (tcells ps).length = ps.length := by simp [tcells]
theorem tcells_app (a b : List ByteArray) : tcells (a ++ b) = tcells a ++ tcells b := by simp [tcells]
set_option maxRecDepth 100000 in
theorem mod_any (n m : Nat) (hn : n ≤ 4611686018427387904) (hm : 1 ≤ m ∧ m ≤ 1048576) (w : World) :
    Calls Try.prog 8 #[.int .i64 n, .int .i64 m] w fun e w' => e = .returned (.int .i64 ((n % m : Nat) : Int)) ∧ w = w' := by
  have e1 : ∀ (t : TypeId) (x : Nat), binOp .rem t (.int .i64 (x : Int)) (.int .i64 (m : Int)) = pure (.int .i64 ((x % m : Nat) : Int)) := by
    intro t x
    simp only [binOp, Op.intDiv]
    rw [if_neg (by simp), if_neg (by omega), Int.tmod_eq_emod_of_nonneg (by omega), Int.natCast_emod]
  have r1 := fun t => e1 t n
  have hq0 : n % m < m := Nat.mod_lt _ (by omega)
  obtain ⟨q, hq⟩ : ∃ q, q = n % m := ⟨_, rfl⟩
  simp only [← hq] at r1
  rw [← hq] at hq0 ⊢
  have w1 : IntKind.i64.wrap ((q : Int) + m) = ((q + m : Nat) : Int) := by rw [IntWalk.i64_in _ (by omega)]; omega
  have r2 := fun t => e1 t (q + m)
  have e2 : (q + m) % m = q := by rw [Nat.add_mod_right, Nat.mod_eq_of_lt hq0]
  rw [e2] at r2
  obtain ⟨z, hz⟩ : ∃ z, z = q + m := ⟨_, rfl⟩
  rw [← hz] at w1 r2
  clear hq e1 e2 hz
  go_enter Try.func8, Try.ntmps8
  go_wp2_with fail
  go_ret
  exact ⟨rfl, rfl⟩
theorem num8_any (c : Int) (w : World) : Calls Try.prog 7 #[.int .i64 c] w fun e w' => e = .returned (.int .i64 c) ∧ w = w' := by
  go_enter Try.func7, Try.ntmps7
  go_wp2_with fail
  go_ret
  exact ⟨rfl, rfl⟩
/-- The tag: the last sixteen bytes. -/
def tagB (c : ByteArray) : ByteArray := c.extract (c.size - 16) c.size
set_option maxRecDepth 100000 in
theorem tag_any (c : ByteArray) (h : 16 ≤ c.size) (hs : c.size ≤ 1048576) (w : World) :
    Calls Try.prog 11 #[.string c] w fun e w' => e = .returned (.string (tagB c)) ∧ w = w' := by
  have l1 : ¬ (c.size : Int) < 16 := by omega
  have w1 : IntKind.i64.wrap ((c.size : Int) - 16) = ((c.size - 16 : Nat) : Int) := by rw [IntWalk.i64_in _ (by omega)]; omega
  obtain ⟨k, hk⟩ : ∃ k, k = c.size - 16 := ⟨_, rfl⟩
  unfold tagB
  rw [← hk] at w1 ⊢
  have l2 : (k : Int) ≤ c.size := by omega
  have l3 : k ≤ c.size := by omega
  clear hk
  go_enter Try.func11, Try.ntmps11
  go_wp2_with fail
  go_ret
  exact ⟨rfl, rfl⟩
set_option maxRecDepth 100000 in
theorem sizeOK_any (n : Int) (h : 0 ≤ n ∧ n ≤ 1048576) (w : World) :
    Calls Try.prog 22 #[.agg #[], .int .i64 n] w fun e w' => e = .returned (.bool true) ∧ Fr [] w w' := by
  have l1 : 0 ≤ n := h.1
  have l2 : n ≤ 1048576 := h.2
  go_enter Try.func22, Try.ntmps22
  go_wp2_with fail
  go_ret
  exact ⟨rfl, Fr.alloc _ _ _⟩
set_option maxRecDepth 100000 in
theorem place_any (k : Int) (hk : 1 ≤ k ∧ k ≤ 3) (n : ByteArray) (hn : n.size ≤ 64) (w : World) :
    Calls Try.prog 26 #[.agg #[], .int .i64 k, .string n] w fun e w' => e = .returned (.int .i64 0) ∧ Fr [] w w' := by
  have l1 : ¬ (64 : Int) < n.size := by omega
  have l2 : ¬ k < 1 := by omega
  have l3 : ¬ 3 < k := by omega
  clear hk
  go_enter Try.func26, Try.ntmps26
  go_wp2_with fail
  go_ret
  exact ⟨rfl, Fr.alloc _ _ _⟩
end Go.Proofs.Ythalpgandfbkdaa
