/- Four lists that are written over, one by one: what stands all along. No walk here. -/
import Derived.Test.YtffhfmaphjjffaaDoorSplG
namespace Go.Proofs.YtffhfmaphjjffaaDoor
open Go.RowKit Go.Lib Go.Joins Base
set_option linter.unusedVariables false
set_option linter.unusedSimpArgs false

theorem own_base {w : World} {b b' s n : Nat} {e : TypeId} {v : Value} {xs : List Value} (h : w.ownsRow b e s v n xs) (hb : b' ≤ b) : w.ownsRow b' e s v n xs := by
  obtain ⟨h1, h2 | ⟨g, cap, cur, hv, hg, r⟩⟩ := h
  · exact ⟨h1, .inl h2⟩
  · exact ⟨h1, .inr ⟨g, cap, cur, hv, by omega, r⟩⟩
def updT (f : Nat → List ByteArray) (i : Nat) (x : List ByteArray) : Nat → List ByteArray := fun k => if k = i then x else f k
theorem updT_same (f : Nat → List ByteArray) (i : Nat) (x : List ByteArray) : updT f i x i = x := by simp [updT]
theorem updT_else (f : Nat → List ByteArray) (i k : Nat) (x : List ByteArray) (h : k ≠ i) : updT f i x k = f k := by simp [updT, h]
theorem FullT.keep {w w' : World} {S : List Nat} {v : Value} {ps : List ByteArray} (h : FullT w v ps) (f : Fr S w w') (hS : ∀ g, v.ownBlock = some g → g ∉ S) : FullT w' v ps := by
  rcases h with h | ⟨g, rfl, hA⟩
  · exact .inl h
  · exact .inr ⟨g, rfl, f.keep hA (hS g rfl)⟩
theorem FullT.len {w : World} {v : Value} {ps : List ByteArray} (h : FullT w v ps) : ∃ ad, v = .slice ad ps.length ps.length ∧ (0 < ps.length → ∃ g, ad = some ⟨g, 0, none⟩ ∧ At w g 9 (tcells ps)) := by
  rcases h with ⟨rfl, rfl⟩ | ⟨g, rfl, hA⟩
  · exact ⟨none, rfl, fun h => by simp at h⟩
  · exact ⟨_, rfl, fun _ => ⟨g, rfl, hA⟩⟩
/-- The four lists hold cur, i of them are grown. -/
structure AP (w wr : World) (S : List Nat) (gl : Nat) (V : Nat → Value) (i : Nat) (cur : Nat → List ByteArray) (G : Nat → Value) (gr : Nat → List ByteArray) (v3 : Value) : Prop where
  fr : Fr S w wr
  full : ∀ j, j < 4 → FullT wr (V j) (cur j)
  at_ : At wr gl 22 [V 0, V 1, V 2, V 3]
  row : wr.ownsRow w.heap.size 22 1 v3 i ((List.range i).map G)
  rows : ∀ j, j < i → wr.ownsRow w.heap.size 9 1 (G j) (gr j).length (tcells (gr j))
/-- What stands of the lists ahead: where they lie. -/
structure AL (w : World) (S : List Nat) (gl : Nat) (V : Nat → Value) : Prop where
  old : ∀ j g, j < 4 → (V j).ownBlock = some g → g ∈ S ∧ g < w.heap.size ∧ g ≠ gl
  gl : gl < w.heap.size ∧ gl ∉ S
  dis : ∀ i j g, i < 4 → j < 4 → i ≠ j → (V i).ownBlock = some g → (V j).ownBlock ≠ some g
  sub : ∀ g, g ∈ S → g < w.heap.size
theorem AP.keep {w wr w' : World} {S : List Nat} {gl : Nat} {V : Nat → Value} {i : Nat} {cur : Nat → List ByteArray} {G : Nat → Value} {gr : Nat → List ByteArray} {v3 : Value} (h : AP w wr S gl V i cur G gr v3) (f : Fr [] wr w') : AP w w' S gl V i cur G gr v3 :=
  ⟨h.fr.trans (f.mono (by simp)), fun j hj => (h.full j hj).keep f (by simp), f.keep h.at_ (by simp), own_fr h.row f (by simp), fun j hj => own_fr (h.rows j hj) f (by simp)⟩
theorem AP.store {w wr : World} {S : List Nat} {gl : Nat} {V : Nat → Value} {i : Nat} {cur : Nat → List ByteArray} {G : Nat → Value} {gr : Nat → List ByteArray} {v3 : Value} (L : AL w S gl V) (h : AP w wr S gl V i cur G gr v3) (j g k : Nat) (s : ByteArray) (hj : j < 4) (hv : V j = .slice (some ⟨g, 0, none⟩) (cur j).length (cur j).length) (hk : k < (cur j).length) :
    AP w (wr.setCell ⟨g, k, none⟩ (.string s)) S gl V i (updT cur j ((cur j).set k s)) G gr v3 := by
  have hg : (V j).ownBlock = some g := by rw [hv]; rfl
  obtain ⟨h1, h2, h3⟩ := L.old j g hj hg
  have f : Fr [g] wr (wr.setCell ⟨g, k, none⟩ (.string s)) := Fr.setCell _ _ _ _ (.inl (by simp))
  refine ⟨h.fr.trans (f.mono (by intro x hx _; simp at hx; subst hx; exact h1)), fun l hl => ?_, f.keep h.at_ (by simp; exact Ne.symm h3), own_fr h.row f (fun x hx => by have := (h.row.lt x hx).1; simp; omega), fun l hl => own_fr (h.rows l hl) f (fun x hx => by have := ((h.rows l hl).lt x hx).1; simp; omega)⟩
  by_cases e : l = j
  · subst e
    rw [updT_same]
    have := h.full l hl
    rcases this with ⟨e1, e2⟩ | ⟨g', e1, hA⟩
    · rw [e2] at hk; simp at hk
    · rw [hv] at e1
      simp only [Value.slice.injEq, Option.some.injEq, Addr.mk.injEq, and_true] at e1
      obtain ⟨rfl, _⟩ := e1
      refine .inr ⟨g, by rw [hv]; simp, ?_⟩
      have := hA.setCell k (.string s)
      have e2 : (tcells (cur l)).set k (.string s) = tcells ((cur l).set k s) := by simp [tcells, List.map_set]
      rw [e2] at this
      exact this
  · rw [updT_else _ _ _ _ e]
    exact (h.full l hl).keep f (fun x hx => by simp; rintro rfl; exact L.dis l j x hl hj e hx hg)
def updV (f : Nat → Value) (i : Nat) (x : Value) : Nat → Value := fun k => if k = i then x else f k
theorem AP.grow {w wr w1 w2 : World} {S : List Nat} {gl : Nat} {V : Nat → Value} {i : Nat} {cur : Nat → List ByteArray} {G : Nat → Value} {gr : Nat → List ByteArray} {v3 v3' x : Value} {q : List ByteArray} {b : Nat} (L : AL w S gl V) (h : AP w wr S gl V i cur G gr v3) (f1 : Fr [] wr w1)
    (hb : w.heap.size ≤ b) (r1 : w1.ownsRow b 9 1 x q.length (tcells q)) (o3 : w2.ownsRow w.heap.size 22 1 v3' (i + 1) ((List.range i).map G ++ [x])) (g3 : w1.grownBy w2 v3.ownBlock) :
    AP w w2 S gl V (i + 1) cur (updV G i x) (updT gr i q) v3' := by
  have h1 := h.keep f1
  have f2 : Fr v3.ownBlock.toList w1 w2 := Fr.ofGrown g3 (by intro k hk; rw [hk]; simp)
  have hnew : ∀ k, k ∈ v3.ownBlock.toList → w.heap.size ≤ k := fun k hk => by
    have : v3.ownBlock = some k := by simpa using hk
    exact (h1.row.lt k this).1
  refine ⟨?_, fun j hj => (h1.full j hj).keep f2 (fun g hg hx => by have := (L.old j g hj hg).2.1; have := hnew g hx; omega), f2.keep h1.at_ (fun hx => by have := hnew _ hx; have := L.gl.1; omega), ?_, fun j hj => ?_⟩
  · refine ⟨f2.os.trans h1.fr.os, f2.tape.trans h1.fr.tape, f2.output.trans h1.fr.output, Nat.le_trans h1.fr.size f2.size, fun k hk hS => ?_⟩
    rw [f2.block k (Nat.lt_of_lt_of_le hk h1.fr.size) (fun hx => by have := hnew k hx; omega)]
    exact h1.fr.block k hk hS
  · have e : (List.range (i + 1)).map (updV G i x) = (List.range i).map G ++ [x] := by
      rw [List.range_succ, List.map_append]
      congr 1
      · apply List.map_congr_left
        intro k hk
        have : k ≠ i := by have := List.mem_range.1 hk; omega
        simp [updV, this]
      · simp [updV]
    rw [e]; exact o3
  · by_cases e : j = i
    · subst e
      have e1 : updV G j x j = x := by simp [updV]
      rw [updT_same, e1]
      exact own_base (own_else h1.row r1 (by decide) g3 rfl) hb
    · have e1 : updV G i x j = G j := by simp [updV, e]
      rw [updT_else _ _ _ _ e, e1]
      exact own_else h1.row (h1.rows j (by omega)) (by decide) g3 rfl
end Go.Proofs.YtffhfmaphjjffaaDoor
