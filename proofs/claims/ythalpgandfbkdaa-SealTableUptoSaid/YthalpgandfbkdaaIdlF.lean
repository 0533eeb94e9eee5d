/- The ideal sealer: Open; a number modulo another one. -/
import Derived.Test.YthalpgandfbkdaaIdlE
namespace Go.Proofs.Ythalpgandfbkdaa
open Go.RowKit Go.Lib Go.Joins Base Go.Maps
set_option linter.unusedVariables false
set_option linter.unusedSimpArgs false

theorem tmod_range (n H : Int) (h : 0 < H) : -H < n.tmod H ∧ n.tmod H < H := by
  refine ⟨?_, Int.tmod_lt_of_pos _ h⟩
  have := Int.tmod_lt_of_pos (-n) h
  rw [Int.neg_tmod] at this; omega
theorem remN (x k : Nat) (hk : k ≠ 0) (t : TypeId) : binOp .rem t (.int .i64 (x : Int)) (.int .i64 (k : Int)) = pure (.int .i64 ((x % k : Nat) : Int)) := by
  simp only [binOp, Op.intDiv]
  rw [if_neg (by simp), if_neg (by omega), Int.tmod_eq_emod_of_nonneg (by omega), Int.natCast_emod]
theorem quoN (x k : Nat) (hk : k ≠ 0) (hx : x < 9223372036854775808) (t : TypeId) : binOp .quo t (.int .i64 (x : Int)) (.int .i64 (k : Int)) = pure (.int .i64 ((x / k : Nat) : Int)) := by
  have e : (x : Int).tdiv (k : Int) = ((x / k : Nat) : Int) := by rw [Int.tdiv_eq_ediv_of_nonneg (by omega)]; simp
  have hle : x / k ≤ x := Nat.div_le_self _ _
  simp only [binOp, Op.intDiv]
  rw [if_neg (by simp), e, wrapI_nat _ (by omega), if_neg (by omega)]
/-- A number modulo another one, from 0 on. -/
def modN (n : Int) (m : Nat) : Nat := (n.tmod m + m).toNat % m
theorem modN_lt (n : Int) (m : Nat) (h : 1 ≤ m) : modN n m < m := Nat.mod_lt _ (by omega)
set_option maxRecDepth 100000 in
theorem modI_any (n : Int) (m : Nat) (hm : 1 ≤ m ∧ m ≤ 1125899906842624) (w : World) :
    Calls Try.prog 8 #[.int .i64 n, .int .i64 m] w fun e w' => e = .returned (.int .i64 ((modN n m : Nat) : Int)) ∧ w = w' := by
  obtain ⟨r1, r2⟩ := tmod_range n m (by omega)
  have e1 : ∀ t, binOp .rem t (.int .i64 n) (.int .i64 m) = pure (.int .i64 (n.tmod m)) := by
    intro t
    simp only [binOp, Op.intDiv]
    rw [if_neg (by simp)]
    rw [if_neg (by omega)]
  obtain ⟨q, hq⟩ : ∃ q : Nat, n.tmod m + m = (q : Int) := ⟨(n.tmod m + m).toNat, by omega⟩
  have e2 : IntKind.i64.wrap (n.tmod m + m) = (q : Int) := by rw [hq]; exact IntWalk.i64_in _ (by omega)
  have e3 := fun t => remN q m (by omega) t
  have e4 : modN n m = q % m := by unfold modN; rw [hq]; rfl
  rw [← e4] at e3
  generalize modN n m = z at e3 ⊢
  generalize n.tmod m = u at e1 e2
  clear e4 hq r1 r2
  go_enter Try.func8, Try.ntmps8
  go_wp2_with fail
  go_ret
  exact ⟨rfl, rfl⟩
/-- The tag of any blob. -/
def tagX (c : ByteArray) : ByteArray := if c.size < 16 then ⟨#[]⟩ else tagB c
theorem tagX_big (c : ByteArray) (h : 16 ≤ c.size) : tagX c = tagB c := if_neg (by omega)
theorem tagX_size (c : ByteArray) : (tagX c).size ≤ 16 := by
  unfold tagX
  split
  · exact Nat.zero_le _
  · rw [tag_len c (by omega)]; exact Nat.le_refl _
set_option maxRecDepth 100000 in
theorem tagX_any (c : ByteArray) (hs : c.size ≤ 4611686018427387904) (w : World) :
    Calls Try.prog 11 #[.string c] w fun e w' => e = .returned (.string (tagX c)) ∧ w = w' := by
  by_cases h : c.size < 16
  · have l1 : (c.size : Int) < 16 := by omega
    rw [tagX, if_pos h]
    go_enter Try.func11, Try.ntmps11
    go_wp2_with fail
    go_ret
    exact ⟨rfl, rfl⟩
  · rw [tagX, if_neg h]
    have l1 : ¬ (c.size : Int) < 16 := by omega
    have w1 : IntKind.i64.wrap ((c.size : Int) - 16) = ((c.size - 16 : Nat) : Int) := by rw [IntWalk.i64_in _ (by omega)]; omega
    obtain ⟨k, hk⟩ : ∃ k, k = c.size - 16 := ⟨_, rfl⟩
    unfold tagB
    rw [← hk] at w1 ⊢
    have l2 : (k : Int) ≤ c.size := by omega
    have l3 : k ≤ c.size := by omega
    clear hk h
    go_enter Try.func11, Try.ntmps11
    go_wp2_with fail
    go_ret
    exact ⟨rfl, rfl⟩
/-- The numbers at the tags are those of the rows. -/
def Good (rs : List Rw) (F : ByteArray → Int) : Prop :=
  (∀ t, F t = 0 ∨ ∃ (j : Nat) (r : Rw), rs[j]? = some r ∧ F t = ((j + 1 : Nat) : Int) ∧ tagX r.2.2.1 = t) ∧ ∀ (j : Nat) (r : Rw), rs[j]? = some r → F (tagX r.2.2.1) = ((j + 1 : Nat) : Int)
def Fits (r : Rw) (k : Int) (x c : ByteArray) : Prop := r.1 = k ∧ r.2.1 = x ∧ r.2.2.1 = c
theorem row_cells {w : World} {base p b : Nat} {v : Value} {rs : List Rw} {F} (h : Idl w base p b v rs F) (j : Nat) (r : Rw) (hj : rs[j]? = some r) :
    ∃ g cap, v = .slice (some ⟨g, 0, none⟩) rs.length cap ∧ w.cell? ⟨g, j * 4, none⟩ = some (.int .i64 r.1) ∧ w.cell? ⟨g, j * 4 + 1, none⟩ = some (.string r.2.1) ∧ w.cell? ⟨g, j * 4 + 2, none⟩ = some (.string r.2.2.1) ∧ w.cell? ⟨g, j * 4 + 3, none⟩ = some (.string r.2.2.2) := by
  have hlt : j < rs.length := (List.getElem?_eq_some_iff.1 hj).1
  have key : ∀ (l : List Rw) (j : Nat), l[j]? = some r → ∀ i, i < 4 → (rwsC l)[j * 4 + i]? = (rwCells r)[i]? := by
    intro l
    induction l with
    | nil => intro j hj; simp at hj
    | cons a l ih =>
      intro j hj i hi
      have e : rwsC (a :: l) = rwCells a ++ rwsC l := by simp [rwsC]
      rw [e]
      cases j with
      | zero =>
        simp at hj
        subst hj
        rw [Nat.zero_mul, Nat.zero_add, List.getElem?_append_left (by simp [rwCells]; omega)]
      | succ j =>
        rw [List.getElem?_cons_succ] at hj
        rw [List.getElem?_append_right (by simp [rwCells]; omega), show (j + 1) * 4 + i - (rwCells a).length = j * 4 + i by simp [rwCells]; omega]
        exact ih j hj i hi
  have h4 := h.row
  rcases ownsRow_forms h4 with ⟨rfl, h0⟩ | ⟨g, cap, rfl⟩
  · omega
  · have hl := rwsC_len rs
    have hc : ∀ i, i < 4 → w.cell? ⟨g, j * 4 + i, none⟩ = (rwCells r)[i]? := fun i hi => by
      rw [h4.cellAt (j * 4 + i) (by omega), key rs j hj i hi]
    exact ⟨g, cap, rfl, hc 0 (by omega), hc 1 (by omega), hc 2 (by omega), hc 3 (by omega)⟩
end Go.Proofs.Ythalpgandfbkdaa
