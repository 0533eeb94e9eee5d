/- Shares in plain Lean: rows of bytes, the values at a place, the texts. No program here. -/
import Derived.Test.YtffhfmaphjjffaaDoorShrF
import Derived.Test.YtffhfmaphjjffaaDoorShaB
namespace Go.Proofs.YtffhfmaphjjffaaDoor
open Go.RowKit Go.Lib Base
set_option linter.unusedVariables false
set_option linter.unusedSimpArgs false

/-- A row and another one times f. -/
def plusR (r o : List UInt8) (f : UInt8) : List UInt8 := List.zipWith (fun a b => a ^^^ gmul b f) r o
theorem plusR_len (r o : List UInt8) (f : UInt8) (h : r.length = o.length) : (plusR r o f).length = r.length := by simp [plusR]; omega
theorem plusR_get (r o : List UInt8) (f : UInt8) (i : Nat) (h1 : i < r.length) (h2 : i < o.length) : (plusR r o f).getD i 0 = r.getD i 0 ^^^ gmul (o.getD i 0) f := by
  simp [plusR, List.getD, List.getElem?_zipWith, h1, h2]
/-- The value at x of rows of coefficients. -/
def horR : List (List UInt8) → UInt8 → List UInt8
  | [], _ => zerosB 32
  | r :: c, x => plusR r (horR c x) x
theorem horR_len : ∀ (c : List (List UInt8)) (x : UInt8), (∀ r ∈ c, r.length = 32) → (horR c x).length = 32
  | [], _, _ => by simp [horR, zerosB]
  | r :: c, x, h => by
    have h1 := h r (by simp)
    have h2 := horR_len c x (fun r hr => h r (by simp [hr]))
    rw [horR, plusR_len _ _ _ (by omega), h1]
/-- At each byte it is the value of the bytes there. -/
theorem horR_get : ∀ (c : List (List UInt8)) (x : UInt8) (j : Nat), (∀ r ∈ c, r.length = 32) → j < 32 → (horR c x).getD j 0 = ev (c.map fun r => r.getD j 0) x
  | [], x, j, _, hj => by
    show (zerosB 32).getD j 0 = 0
    unfold zerosB; rw [List.getD, List.getElem?_replicate, if_pos hj]; rfl
  | r :: c, x, j, h, hj => by
    have h1 := h r (by simp)
    have h2 := horR_len c x (fun r hr => h r (by simp [hr]))
    rw [horR, plusR_get _ _ _ _ (by omega) (by omega), horR_get c x j (fun r hr => h r (by simp [hr])) hj, List.map_cons, ev]
/-- A text cut into n rows. -/
def rowsL (s : List UInt8) (n : Nat) : List (List UInt8) := (List.range n).map fun i => (s.drop (32 * i)).take 32
theorem rowsL_len (s : List UInt8) (n : Nat) : (rowsL s n).length = n := by simp [rowsL]
theorem rowsL_row (s : List UInt8) (n : Nat) (h : 32 * n ≤ s.length) : ∀ r ∈ rowsL s n, r.length = 32 := by
  intro r hr
  simp only [rowsL, List.mem_map, List.mem_range] at hr
  obtain ⟨i, hi, rfl⟩ := hr
  simp; omega
/-- A share's text. -/
def bodyS (x k : UInt8) (id v : List UInt8) : List UInt8 := 83 :: x :: k :: (id ++ v)
def textS (x k : UInt8) (id v : List UInt8) : List UInt8 := bodyS x k id v ++ (shaL (bodyS x k id v)).take 8
theorem bodyS_len (x k : UInt8) (id v : List UInt8) (h1 : id.length = 8) (h2 : v.length = 32) : (bodyS x k id v).length = 43 := by simp [bodyS, h1, h2]
theorem textS_len (x k : UInt8) (id v : List UInt8) (h1 : id.length = 8) (h2 : v.length = 32) : (textS x k id v).length = 51 := by
  simp [textS, bodyS_len x k id v h1 h2, shaL_len]
/-- The values of the share at x. -/
def valS (master coins : List UInt8) (k : Nat) (x : UInt8) : List UInt8 := horR (rowsL (master ++ coins) k) x
/-- All shares. -/
def shareS (master id coins : List UInt8) (k : Nat) (i : Nat) : List UInt8 := textS (UInt8.ofNat (i + 1)) (UInt8.ofNat k) id (valS master coins k (UInt8.ofNat (i + 1)))
def splitS (master id coins : List UInt8) (n k : Nat) : List (List UInt8) := (List.range n).map fun i => shareS master id coins k i
theorem valS_len (master coins : List UInt8) (k : Nat) (x : UInt8) (h : 32 * k ≤ master.length + coins.length) : (valS master coins k x).length = 32 :=
  horR_len _ _ (rowsL_row _ _ (by simpa using h))
theorem shareS_len (master id coins : List UInt8) (k i : Nat) (h : 32 * k ≤ master.length + coins.length) (h1 : id.length = 8) : (shareS master id coins k i).length = 51 :=
  textS_len _ _ _ _ h1 (valS_len _ _ _ _ h)
end Go.Proofs.YtffhfmaphjjffaaDoor
