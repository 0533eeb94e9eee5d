/- Points of shares, in plain Lean and in memory; the value at a place of the polynomials through them. No walk here. -/
import Derived.Test.YtffhfmaphjjffaaDoorJnRead
namespace Go.Proofs.YtffhfmaphjjffaaDoor
open Go.RowKit Go.Lib Go.Joins Base Gf
set_option linter.unusedVariables false
set_option linter.unusedSimpArgs false

abbrev Pt := UInt8 × List UInt8
def xsOf (ps : List Pt) : List UInt8 := ps.map (·.1)
def ysOf (ps : List Pt) (j : Nat) : List UInt8 := ps.map fun p => p.2.getD j 0
theorem xsOf_len (ps : List Pt) : (xsOf ps).length = ps.length := by simp [xsOf]
theorem xsOf_get (ps : List Pt) (i : Nat) (p : Pt) (h : ps[i]? = some p) : (xsOf ps).getD i 0 = p.1 := by simp [xsOf, List.getD, h]
theorem ysOf_get (ps : List Pt) (i j : Nat) (p : Pt) (h : ps[i]? = some p) : (ysOf ps j).getD i 0 = p.2.getD j 0 := by simp [ysOf, List.getD, h]
/-- The rows' value, over the first n points. -/
def atRT (ps : List Pt) (x : UInt8) : Nat → List UInt8
  | 0 => zerosB 32
  | n + 1 => plusR (atRT ps x n) ((ps.getD n (0, [])).2) (lag (xsOf ps) n x)
def atR (ps : List Pt) (x : UInt8) : List UInt8 := atRT ps x ps.length
theorem atRT_len (ps : List Pt) (x : UInt8) (h : ∀ p ∈ ps, p.2.length = 32) : ∀ n, n ≤ ps.length → (atRT ps x n).length = 32
  | 0, _ => by simp [atRT, zerosB]
  | n + 1, hn => by
    have ih := atRT_len ps x h n (by omega)
    have e : ps.getD n (0, []) = ps[n] := by simp [List.getD, show n < ps.length by omega]
    rw [atRT, e, plusR_len _ _ _ (by rw [ih, h _ (List.getElem_mem _)]), ih]
theorem atRT_get (ps : List Pt) (x : UInt8) (j : Nat) (hj : j < 32) (h : ∀ p ∈ ps, p.2.length = 32) : ∀ n, n ≤ ps.length → (atRT ps x n).getD j 0 = atT (xsOf ps) (ysOf ps j) x n
  | 0, _ => by
    show (zerosB 32).getD j 0 = 0
    unfold zerosB; rw [List.getD, List.getElem?_replicate, if_pos hj]; rfl
  | n + 1, hn => by
    have il := atRT_len ps x h n (by omega)
    have e : ps.getD n (0, []) = ps[n] := by simp [List.getD, show n < ps.length by omega]
    have hl := h _ (List.getElem_mem (show n < ps.length by omega))
    rw [atRT, e, plusR_get _ _ _ _ (by omega) (by omega), atRT_get ps x j hj h n (by omega), atT, ysOf_get ps n j ps[n] (List.getElem?_eq_getElem (by omega))]
/-- At each byte it is the value of the polynomial through the points' bytes there. -/
theorem atR_get (ps : List Pt) (x : UInt8) (j : Nat) (hj : j < 32) (h : ∀ p ∈ ps, p.2.length = 32) : (atR ps x).getD j 0 = atP (xsOf ps) (ysOf ps j) x := by
  unfold atR atP; rw [xsOf_len]; exact atRT_get ps x j hj h _ (Nat.le_refl _)
theorem atR_len (ps : List Pt) (x : UInt8) (h : ∀ p ∈ ps, p.2.length = 32) : (atR ps x).length = 32 := atRT_len ps x h _ (Nat.le_refl _)

def ptCells (p : Pt) : List Value := .int .u8 (bt p.1) :: byteCells p.2
theorem ptCells_len (p : Pt) (h : p.2.length = 32) : (ptCells p).length = 33 := by simp [ptCells, byteCells_length, h]
/-- Points in memory, one behind the other. -/
def Pts (w : World) (g o : Nat) (ps : List Pt) : Prop := g < w.heap.size ∧ ∀ i p, ps[i]? = some p → w.rangeAt g (o + i * 33) (ptCells p)
theorem Pts.keep {S : List Nat} {w w' : World} {g o : Nat} {ps : List Pt} (h : Pts w g o ps) (f : Fr S w w') (hS : g ∉ S) : Pts w' g o ps := by
  refine ⟨Nat.lt_of_lt_of_le h.1 f.size, fun i p hp j v hv => ?_⟩
  rw [← h.2 i p hp j v hv]
  exact World.cell?_of_block (f.block g h.1 hS)
end Go.Proofs.YtffhfmaphjjffaaDoor
