/- Rows of one's own side by side; the coefficients of a split at one byte. No walk here. -/
import Derived.Test.YtffhfmaphjjffaaDoorShrLinP
namespace Go.Proofs.YtffhfmaphjjffaaDoor
open Go.RowKit Go.Lib Go.Joins Base Gf
set_option linter.unusedVariables false
set_option linter.unusedSimpArgs false

theorem own_base {w : World} {b b' s n : Nat} {e : TypeId} {v : Value} {xs : List Value} (h : w.ownsRow b e s v n xs) (hb : b' ≤ b) : w.ownsRow b' e s v n xs := by
  obtain ⟨h1, h2 | ⟨g, cap, cur, hv, hg, r⟩⟩ := h
  · exact ⟨h1, .inl h2⟩
  · exact ⟨h1, .inr ⟨g, cap, cur, hv, by omega, r⟩⟩
theorem cut_one (m : ByteArray) (n k : Int) (i c : ByteArray) : (#[Value.string m, .int .i64 n, .int .i64 k, .string i, .string c]).all (·.oneCell') = true :=
  all_oneCell_toArray (cs := [.string m, .int .i64 n, .int .i64 k, .string i, .string c]) (by intro v hv; simp only [List.mem_cons, List.not_mem_nil, or_false] at hv; rcases hv with rfl | rfl | rfl | rfl | rfl <;> rfl)
/-- Rows of unlike elements lie in unlike blocks. -/
theorem own_apart_ty {w : World} {b b' s s' n n' : Nat} {e e' : TypeId} {v v' : Value} {xs xs' : List Value} (h : w.ownsRow b e s v n xs) (h' : w.ownsRow b' e' s' v' n' xs') (hne : e ≠ e') : ∀ g, v.ownBlock = some g → v'.ownBlock ≠ some g := by
  intro g hg hg'
  obtain ⟨_, ⟨rfl, _⟩ | ⟨g1, c1, cur1, rfl, _, h1, _⟩⟩ := h
  · cases hg
  obtain ⟨_, ⟨rfl, _⟩ | ⟨g2, c2, cur2, rfl, _, h2, _⟩⟩ := h'
  · cases hg'
  simp only [Value.ownBlock, Option.some.injEq] at hg hg'
  subst hg hg'
  rw [h1] at h2
  simp only [Option.some.injEq, Obj.cells.injEq] at h2
  exact hne h2.2.1
theorem own_else {w w' : World} {row : Option Nat} {b b' s s' n n' : Nat} {e e' : TypeId} {v v' : Value} {xs xs' : List Value} (h : w.ownsRow b e s v n xs) (h' : w.ownsRow b' e' s' v' n' xs') (hne : e ≠ e') (gr : w.grownBy w' row) (hr : row = v.ownBlock) : w'.ownsRow b' e' s' v' n' xs' :=
  own_fr h' (Fr.ofGrown gr (S := v.ownBlock.toList) (by intro k hk; rw [hr] at hk; rw [hk]; simp)) (fun g hg hx => own_apart_ty h h' hne g (by simpa using hx) hg)
/-- The coefficients at one byte. -/
def coefs (m c : List UInt8) (K j : Nat) : List UInt8 := (rowsL (m ++ c) K).map fun r => r.getD j 0
theorem coefs_len (m c : List UInt8) (K j : Nat) : (coefs m c K j).length = K := by simp [coefs, rowsL]
theorem coefs_get (m c : List UInt8) (K j i : Nat) (hi : i < K) (hj : j < 32) : (coefs m c K j).getD i 0 = (m ++ c).getD (32 * i + j) 0 := by
  simp only [coefs, rowsL, List.getD, List.getElem?_map, List.getElem?_range hi, Option.map_some, Option.getD_some, List.getElem?_take, if_pos hj, List.getElem?_drop]
theorem valS_get (m c : List UInt8) (K : Nat) (x : UInt8) (j : Nat) (h : 32 * K ≤ m.length + c.length) (hj : j < 32) : (valS m c K x).getD j 0 = ev (coefs m c K j) x :=
  horR_get _ _ _ (rowsL_row _ _ (by simpa using h)) hj
theorem take_snoc0 (l : List UInt8) (j : Nat) (h : j < l.length) : l.take (j + 1) = l.take j ++ [l.getD j 0] := by
  rw [List.take_add_one, List.getElem?_eq_getElem h]; simp [List.getD, h]

end Go.Proofs.YtffhfmaphjjffaaDoor
