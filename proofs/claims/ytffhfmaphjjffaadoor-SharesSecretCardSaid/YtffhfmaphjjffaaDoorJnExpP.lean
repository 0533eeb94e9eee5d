/- The coins that explain shares, in plain Lean; points in memory that may be written. No walk here. -/
import Derived.Test.YtffhfmaphjjffaaDoorJnJoin
namespace Go.Proofs.YtffhfmaphjjffaaDoor
open Go.RowKit Go.Lib Go.Joins Base Gf
set_option linter.unusedVariables false
set_option linter.unusedSimpArgs false

def timesR (r : List UInt8) (f : UInt8) : List UInt8 := plusR (zerosB 32) r f
theorem timesR_len (r : List UInt8) (f : UInt8) (h : r.length = 32) : (timesR r f).length = 32 := by rw [timesR, plusR_len _ _ _ (by simp [zerosB, h])]; simp [zerosB]
/-- One point, less the value at 0, divided by its place. -/
def stepPt (low : List UInt8) (p : Pt) : Pt := (p.1, timesR (plusR p.2 low 1) (ginv p.1))
def stepPts (low : List UInt8) (l : List Pt) : List Pt := l.map (stepPt low)
theorem stepPts_len (low : List UInt8) (l : List Pt) : (stepPts low l).length = l.length := by simp [stepPts]
theorem stepPt_len (low : List UInt8) (p : Pt) (h1 : low.length = 32) (h2 : p.2.length = 32) : (stepPt low p).2.length = 32 := timesR_len _ _ (by rw [plusR_len _ _ _ (by omega), h2])
theorem stepPts_all (low : List UInt8) (l : List Pt) (h1 : low.length = 32) (h2 : ∀ p ∈ l, p.2.length = 32) : ∀ p ∈ stepPts low l, p.2.length = 32 := fun p hp => by
  obtain ⟨q, hq, rfl⟩ := List.mem_map.1 hp
  exact stepPt_len low q h1 (h2 q hq)
/-- The coins: row by row. -/
def explN : Nat → List UInt8 → List Pt → List UInt8
  | 0, _, _ => []
  | n + 1, low, l => atR (stepPts low l) 0 ++ explN n (atR (stepPts low l) 0) ((stepPts low l).tail)
theorem explN_len : ∀ (n : Nat) (low : List UInt8) (l : List Pt), l.length = n → low.length = 32 → (∀ p ∈ l, p.2.length = 32) → (explN n low l).length = 32 * n
  | 0, _, _, _, _, _ => rfl
  | n + 1, low, l, h, h1, h2 => by
    have hs := stepPts_all low l h1 h2
    rw [explN, List.length_append, atR_len _ _ hs, explN_len n _ _ (by rw [List.length_tail, stepPts_len, h]; rfl) (atR_len _ _ hs) (fun p hp => hs p (List.mem_of_mem_tail hp))]
    omega
/-- What Explain answers. -/
def explV (master : List UInt8) (ps : List ByteArray) : List UInt8 × Int :=
  if master.length ≠ 32 then ([], 40) else
  if togE ps ≠ 0 then ([], togE ps) else
  match ps[0]? with
  | none => ([], 0)
  | some s => if ps.length + 1 ≠ (kinO s).1 then ([], 262) else (explN ps.length master (ps.map ptO), 0)
theorem expl_key {m : List UInt8} {ps : List ByteArray} (h : m.length ≠ 32) : explV m ps = ([], 40) := by unfold explV; rw [if_pos h]
theorem expl_bad {m : List UInt8} {ps : List ByteArray} (hm : m.length = 32) (h : togE ps ≠ 0) : explV m ps = ([], togE ps) := by
  unfold explV; rw [if_neg (by simpa using hm), if_pos h]
theorem expl_none {m : List UInt8} {ps : List ByteArray} (hm : m.length = 32) (h : togE ps = 0) (h0 : ps = []) : explV m ps = ([], 0) := by
  subst h0; unfold explV; rw [if_neg (by simpa using hm), if_neg (by simpa using h)]; rfl
theorem expl_few {m : List UInt8} {ps : List ByteArray} (hm : m.length = 32) (h : togE ps = 0) (s : ByteArray) (hs : ps[0]? = some s) (hk : ps.length + 1 ≠ (kinO s).1) : explV m ps = ([], 262) := by
  unfold explV; rw [if_neg (by simpa using hm), if_neg (by simpa using h), hs]; show (if ps.length + 1 ≠ (kinO s).1 then _ else _) = _; rw [if_pos hk]
theorem expl_ok {m : List UInt8} {ps : List ByteArray} (hm : m.length = 32) (h : togE ps = 0) (s : ByteArray) (hs : ps[0]? = some s) (hk : ps.length + 1 = (kinO s).1) : explV m ps = (explN ps.length m (ps.map ptO), 0) := by
  unfold explV; rw [if_neg (by simpa using hm), if_neg (by simpa using h), hs]; show (if ps.length + 1 ≠ (kinO s).1 then _ else _) = _; rw [if_neg (by simpa using hk)]

/-! ## Points that may be written -/
theorem Fr.setCells1 (g : Nat) : ∀ (vs : List Value) (o : Nat) (w : World), Fr [g] w (w.setCells g o vs)
  | [], _, w => Fr.refl _ _
  | v :: r, o, w => (Fr.setCell [g] w ⟨g, o, none⟩ v (.inl (by simp))).trans (Fr.setCells1 g r (o + 1) _)
def WPts (w : World) (g o : Nat) (l : List Pt) : Prop := Pts w g o l ∧ w.there g o (l.length * 33)
theorem WPts.keep {S : List Nat} {w w' : World} {g o : Nat} {l : List Pt} (h : WPts w g o l) (f : Fr S w w') (hS : g ∉ S) : WPts w' g o l := by
  refine ⟨h.1.keep f hS, fun j hj => ?_⟩
  have hb := f.block g h.1.1 hS
  obtain ⟨h1, h2⟩ := h.2 j hj
  refine ⟨by rw [World.cell?_of_block hb]; exact h1, ?_⟩
  rw [← h2]
  simp only [World.frozen?, hb]
theorem WPts.tail {w : World} {g o : Nat} {p : Pt} {l : List Pt} (h : WPts w g o (p :: l)) : WPts w g (o + 33) l := by
  refine ⟨⟨h.1.1, fun i q hq => ?_⟩, fun j hj => ?_⟩
  · have := h.1.2 (i + 1) q (by simpa using hq)
    rwa [show o + (i + 1) * 33 = o + 33 + i * 33 by omega] at this
  · have := h.2 (33 + j) (by simp; omega)
    rwa [show o + (33 + j) = o + 33 + j by omega] at this
theorem WPts.there1 {w : World} {g o : Nat} {l : List Pt} (h : WPts w g o l) (i : Nat) (hi : i < l.length) : w.there g (o + i * 33 + 1) 32 := fun j hj => by
  have := h.2 (i * 33 + 1 + j) (by have : (i + 1) * 33 ≤ l.length * 33 := Nat.mul_le_mul_right _ hi; omega)
  rwa [show o + (i * 33 + 1 + j) = o + i * 33 + 1 + j by omega] at this
theorem WPts.set {w : World} {g o : Nat} {l : List Pt} (h : WPts w g o l) (hl : ∀ p ∈ l, p.2.length = 32) (i : Nat) (p : Pt) (hp : l[i]? = some p) (y : List UInt8) (hy : y.length = 32) : WPts (w.setCells g (o + i * 33 + 1) (byteCells y)) g o (l.set i (p.1, y)) := by
  have hi : i < l.length := (List.getElem?_eq_some_iff.1 hp).1
  refine ⟨⟨?_, fun j q hq => ?_⟩, ?_⟩
  · have := (Fr.setCells1 g (byteCells y) (o + i * 33 + 1) w).size
    have := h.1.1; omega
  · by_cases hj : i = j
    · subst hj
      rw [List.getElem?_set_self hi] at hq
      cases hq
      intro k v hv
      cases k with
      | zero =>
        have h0 : w.rangeAt g (o + i * 33) [.int .u8 (bt p.1)] := fun k u hu => h.1.2 i p hp k u (by
          cases k with
          | zero => exact hu
          | succ k => simp at hu)
        exact World.rangeAt_setCells_apart h0 g (o + i * 33 + 1) (byteCells y) (.inr (.inl (by simp))) 0 v (by simpa [ptCells] using hv)
      | succ k =>
        have hs := World.rangeAt_setCells_same w g (o + i * 33 + 1) (byteCells y) (by rw [byteCells_length, hy]; exact h.there1 i hi) k v (by simpa [ptCells] using hv)
        rwa [show o + i * 33 + 1 + k = o + i * 33 + (k + 1) by omega] at hs
    · rw [List.getElem?_set_ne hj] at hq
      have hq32 := hl q (List.mem_of_getElem? hq)
      refine World.rangeAt_setCells_apart (h.1.2 j q hq) g _ _ ?_
      rw [ptCells_len q hq32, byteCells_length, hy]
      rcases Nat.lt_or_ge j i with h' | h'
      · refine .inr (.inl ?_)
        have : (j + 1) * 33 ≤ i * 33 := Nat.mul_le_mul_right _ h'
        omega
      · refine .inr (.inr ?_)
        have : (i + 1) * 33 ≤ j * 33 := Nat.mul_le_mul_right _ (by omega)
        omega
  · rw [List.length_set]
    exact World.there_setCells h.2 _ _ _
theorem wpts_own {w : World} {b g c n : Nat} {e : TypeId} {ps : List ByteArray} (h : w.ownsRow b e 33 (.slice (some ⟨g, 0, none⟩) n c) n (ptsC ps)) (hps : ∀ s ∈ ps, (ptO s).2.length = 32) : WPts w g 0 (ps.map ptO) := by
  refine ⟨pts_own h hps, ?_⟩
  have hl := h.1
  have hlen : ∀ l : List ByteArray, (∀ s ∈ l, (ptO s).2.length = 32) → (ptsC l).length = l.length * 33 := by
    intro l
    induction l with
    | nil => intro _; rfl
    | cons s r ih =>
      intro hh
      have e : ptsC (s :: r) = ptCells (ptO s) ++ ptsC r := by simp [ptsC]
      rw [e, List.length_append, ptCells_len _ (hh s (by simp)), ih (fun t ht => hh t (by simp [ht]))]
      simp; omega
  have hpl := hlen ps hps
  rw [List.length_map]
  intro j hj
  have hcell := World.ownsRow.cells h rfl j _ (List.getElem?_eq_getElem (by omega))
  rw [addr_add', Nat.zero_add] at hcell
  refine ⟨by rw [Nat.zero_add, hcell]; rfl, ?_⟩
  obtain ⟨_, ⟨h', _⟩ | ⟨g', cap', cur, hv, _, hg, _⟩⟩ := h
  · simp at h'
  · simp only [Value.slice.injEq, Option.some.injEq, Addr.mk.injEq, and_true] at hv
    obtain ⟨rfl, _⟩ := hv
    simp [World.frozen?, hg]
theorem step_prefix (low : List UInt8) (L : List Pt) (i : Nat) (p : Pt) (hp : L[i]? = some p) : ((stepPts low L).take i ++ L.drop i).set i (p.1, (stepPt low p).2) = (stepPts low L).take (i + 1) ++ L.drop (i + 1) := by
  have hi : i < L.length := (List.getElem?_eq_some_iff.1 hp).1
  have ht : ((stepPts low L).take i).length = i := by simp [stepPts_len]; omega
  have hs : (stepPts low L)[i]? = some (stepPt low p) := by rw [stepPts, List.getElem?_map, hp]; rfl
  rw [List.set_append_right _ _ (by omega), ht, Nat.sub_self, List.drop_eq_getElem_cons hi, List.set_cons_zero, List.take_add_one, hs]
  simp [stepPt]
theorem step_cur (low : List UInt8) (L : List Pt) (i : Nat) (hi : i < L.length) : ((stepPts low L).take i ++ L.drop i)[i]? = L[i]? := by
  have ht : ((stepPts low L).take i).length = i := by simp [stepPts_len]; omega
  rw [List.getElem?_append_right (by omega), ht, Nat.sub_self, List.getElem?_drop]; rfl
theorem step_all (low : List UInt8) (L : List Pt) (i : Nat) (h1 : low.length = 32) (h2 : ∀ p ∈ L, p.2.length = 32) : ∀ p ∈ (stepPts low L).take i ++ L.drop i, p.2.length = 32 := fun p hp => by
  rcases List.mem_append.1 hp with h | h
  · exact stepPts_all low L h1 h2 p (List.mem_of_mem_take h)
  · exact h2 p (List.mem_of_mem_drop h)
def slN : Value → Nat
  | .slice _ n _ => n
  | _ => 0
end Go.Proofs.YtffhfmaphjjffaaDoor
