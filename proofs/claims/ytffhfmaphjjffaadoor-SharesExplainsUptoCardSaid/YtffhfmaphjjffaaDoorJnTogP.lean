/- Shares that belong together: what the document says of a list of texts; a list of one struct, built and appended. No walk here. -/
import Derived.Test.YtffhfmaphjjffaaDoorJnAt
import Derived.Test.YtffhfmaphjjffaaDoorSplP
import Derived.Great.BuildSlice
namespace Go.Proofs.YtffhfmaphjjffaaDoor
open Go.RowKit Go.Lib Go.Joins Base Gf
set_option linter.unusedVariables false
set_option linter.unusedSimpArgs false

theorem foldl_off (o : Nat) : ∀ (l : List Value) (k : Nat) (A : Array Value), o + k + l.length ≤ A.size → (l.zipIdx k).foldl (fun cs (x : Value × Nat) => cs.setIfInBounds (o + x.snd) x.fst) A = (A.toList.take (o + k) ++ l ++ A.toList.drop (o + k + l.length)).toArray
  | [], k, A, h => by simp
  | v :: r, k, A, h => by
    have ih := foldl_off o r (k + 1) (A.setIfInBounds (o + k) v) (by simp at h ⊢; omega)
    rw [List.zipIdx_cons, List.foldl_cons, ih, Array.toList_setIfInBounds]
    have hl : o + k < A.toList.length := by simp at h ⊢; omega
    have e1 : (A.toList.set (o + k) v).take (o + (k + 1)) = A.toList.take (o + k) ++ [v] := by
      rw [show o + (k + 1) = (o + k) + 1 by omega, List.take_add_one, List.take_set_of_le (Nat.le_refl _), List.getElem?_set_self hl]; rfl
    have e2 : (A.toList.set (o + k) v).drop (o + (k + 1) + r.length) = A.toList.drop (o + k + (v :: r).length) := by
      rw [List.drop_set_of_lt (by omega)]; congr 1; simp; omega
    rw [e1, e2]; simp
/-- A slice literal of one struct. -/
theorem wp_buildOne {P : Program} {o : Oper} {a : Act} {w : World} {K : Act → World → Prop} {Q : Exit → Act → World → Prop} (t e : TypeId) (x : Operand) (ho : o.op = .buildSlice t 1 #[(0, x)]) (X : List Value) (hx : a.eval x = .agg X.toArray)
    (hu : P.underlying t = some (.slice e)) (hi : ∃ ie z, P.info? e = some ie ∧ ie.zero = some z ∧ ie.size = X.length) (h0 : 0 < X.length) (h1 : X.length ≤ 1000)
    (h : K (a.put o.dst (.slice (some ⟨w.heap.size, 0, none⟩) 1 1)) (w.alloc (.cells X.toArray e))) : o.wp P a w K Q := by
  obtain ⟨ie, z, hie, hz, hs⟩ := hi
  refine wp_buildSlice t e 1 _ ho X.toArray ie z hu hie hz (by omega) (by omega) ?_ h
  simp only [List.map_toArray, List.map_cons, List.map_nil, hx]
  unfold Instr.fill
  have hc : (Value.agg X.toArray).cells = X.toArray := rfl
  simp only [hc, Nat.zero_mul, Nat.zero_add, List.size_toArray, Array.size_map, Array.size_range, Nat.one_mul, hs, ne_eq, not_true_eq_false, Nat.lt_irrefl, gt_iff_lt, or_self, decide_false, if_false, Bool.false_eq_true, Bool.or_self]
  unfold Instr.fill
  have := foldl_off 0 X 0 ((Array.range X.length).map (z.cells[· % z.cells.size]!)) (by simp)
  simp only [Nat.zero_add] at this
  simp
  rw [this]
  simp
/-- What the document says of texts. -/
def badE : List ByteArray → Int
  | [] => 0
  | s :: l => if isE s.data.toList = 0 then badE l else isE s.data.toList
def kinO (s : ByteArray) : Nat × ByteArray := ((s.data.toList.getD 2 0).toNat, s.extract 3 11)
def ptO (s : ByteArray) : Pt := (s.data.toList.getD 1 0, valD s.data.toList)
def kinCells (k : Nat × ByteArray) : List Value := [.int .i64 k.1, .string k.2]
def togE (ps : List ByteArray) : Int :=
  if badE ps = 0 then
    if ∀ s ∈ ps, ∀ t ∈ ps, kinO s = kinO t then
      if (xsOf (ps.map ptO)).Nodup then 0 else 261
    else 260
  else badE ps
theorem badE_take : ∀ (ps : List ByteArray) (i : Nat) (s : ByteArray), (∀ (j : Nat) (t : ByteArray), j < i → ps[j]? = some t → isE t.data.toList = 0) → ps[i]? = some s → isE s.data.toList ≠ 0 → badE ps = isE s.data.toList
  | [], i, s, _, h, _ => by simp at h
  | t :: l, 0, s, _, h, hs => by
    simp at h; subst h
    rw [badE, if_neg hs]
  | t :: l, i + 1, s, ha, h, hs => by
    rw [badE, if_pos (ha 0 t (by omega) rfl)]
    exact badE_take l i s (fun j u hj hu => ha (j + 1) u (by omega) hu) h hs
theorem badE_all : ∀ (ps : List ByteArray), (∀ (j : Nat) (t : ByteArray), ps[j]? = some t → isE t.data.toList = 0) → badE ps = 0
  | [], _ => rfl
  | t :: l, ha => by
    rw [badE, if_pos (ha 0 t rfl)]
    exact badE_all l (fun j u hu => ha (j + 1) u hu)
theorem readV_ok {s : ByteArray} (h : isE s.data.toList = 0) : (if isE s.data.toList = 0 then Value.tuple #[pointV (s.data.toList.getD 1 0) (valD s.data.toList), kinV (s.data.toList.getD 2 0).toNat (s.extract 3 11), .int .i64 0] else .tuple #[point0, kin0, .int .i64 (isE s.data.toList)]) = .tuple #[.agg (ptCells (ptO s)).toArray, .agg (kinCells (kinO s)).toArray, .int .i64 0] := by
  rw [if_pos h]; rfl
def ptsC (ps : List ByteArray) : List Value := ps.flatMap fun s => ptCells (ptO s)
def kinsC (ps : List ByteArray) : List Value := ps.flatMap fun s => kinCells (kinO s)
theorem flat_snoc {f : ByteArray → List Value} (ps : List ByteArray) (i : Nat) (s : ByteArray) (h : ps[i]? = some s) : (ps.take (i + 1)).flatMap f = (ps.take i).flatMap f ++ f s := by
  rw [List.take_add_one, h, List.flatMap_append]; simp
theorem flat_get {f : ByteArray → List Value} {m : Nat} : ∀ (ps : List ByteArray) (i j : Nat) (s : ByteArray), (∀ t ∈ ps, (f t).length = m) → ps[i]? = some s → j < m → (ps.flatMap f)[i * m + j]? = (f s)[j]?
  | [], i, j, s, _, h, _ => by simp at h
  | t :: l, 0, j, s, ha, h, hj => by
    simp at h; subst h
    have := ha t (by simp)
    rw [List.flatMap_cons, Nat.zero_mul, Nat.zero_add, List.getElem?_append_left (by omega)]
  | t :: l, i + 1, j, s, ha, h, hj => by
    have h1 := ha t (by simp)
    have e : (i + 1) * m + j - m = i * m + j := by rw [Nat.succ_mul]; omega
    rw [List.flatMap_cons, List.getElem?_append_right (by rw [h1, Nat.succ_mul]; omega), h1, e]
    exact flat_get l i j s (fun u hu => ha u (by simp [hu])) h hj
/-- Which numbers were seen. -/
def seenL (xs : List UInt8) : List Value := (List.range 17).map fun v => .int .i64 (if xs.any (fun x => x.toNat == v) then 1 else 0)
theorem seenL_get (xs : List UInt8) (x : UInt8) (h : x.toNat < 17) : (seenL xs)[x.toNat]? = some (.int .i64 (if x ∈ xs then 1 else 0)) := by
  simp only [seenL, List.getElem?_map, List.getElem?_range h, Option.map_some]
  congr 3
  simp only [List.any_eq_true, beq_iff_eq, eq_iff_iff]
  constructor
  · rintro ⟨y, hy, e⟩; rw [← UInt8.toNat_inj.1 e]; exact hy
  · intro hx; exact ⟨x, hx, rfl⟩
theorem seenL_set (xs : List UInt8) (x : UInt8) (h : x.toNat < 17) : (seenL xs).set x.toNat (.int .i64 1) = seenL (xs ++ [x]) := by
  apply List.ext_getElem?
  intro v
  by_cases hv : v < 17
  · by_cases e : x.toNat = v
    · subst e
      rw [List.getElem?_set_self (by simp [seenL]; exact h), seenL_get _ _ h, if_pos (by simp)]
    · rw [List.getElem?_set_ne e]
      simp [seenL, hv, e]
  · rw [List.getElem?_eq_none (by simp [seenL]; omega), List.getElem?_eq_none (by simp [seenL]; omega)]
theorem isE_cases (l : List UInt8) : isE l = 0 ∨ isE l = 70 ∨ isE l = 71 ∨ isE l = 72 := by
  unfold isE; split
  · split
    · split
      · exact .inl rfl
      · exact .inr (.inr (.inr rfl))
    · exact .inr (.inr (.inl rfl))
  · exact .inr (.inl rfl)
theorem isE_parts (l : List UInt8) (h : isE l = 0) : l.length = 51 ∧ l.getD 0 0 = 83 ∧ (shaL (l.take 43)).take 8 = l.drop 43 ∧ 1 ≤ (l.getD 1 0).toNat ∧ (l.getD 1 0).toNat ≤ 16 ∧ 1 ≤ (l.getD 2 0).toNat ∧ (l.getD 2 0).toNat ≤ 16 := by
  unfold isE at h
  split at h
  · rename_i h1
    split at h
    · rename_i h2
      split at h
      · rename_i h3; exact ⟨h1.1, h1.2, h2, h3⟩
      · exact absurd h (by decide)
    · exact absurd h (by decide)
  · exact absurd h (by decide)
/-- Whatever the text: what shares.read says of it. -/
def readV (s : ByteArray) : Value := if isE s.data.toList = 0 then .tuple #[pointV (s.data.toList.getD 1 0) (valD s.data.toList), kinV (s.data.toList.getD 2 0).toNat (s.extract 3 11), .int .i64 0] else .tuple #[point0, kin0, .int .i64 (isE s.data.toList)]
theorem read_any (s : ByteArray) (w : World) (hI : First w) (hR : Roots w) : Calls Tryd.prog 48 #[.string s] w fun e w' => e = .returned (readV s) ∧ Fr [] w w' := by
  have hl : s.data.toList.length = s.size := by simp
  unfold readV
  by_cases h1 : s.size = 51 ∧ s.data.toList.getD 0 0 = 83
  · by_cases h3 : (shaL (s.data.toList.take 43)).take 8 = s.data.toList.drop 43
    · by_cases h4 : 1 ≤ (s.data.toList.getD 1 0).toNat ∧ (s.data.toList.getD 1 0).toNat ≤ 16 ∧ 1 ≤ (s.data.toList.getD 2 0).toNat ∧ (s.data.toList.getD 2 0).toNat ≤ 16
      · have e : isE s.data.toList = 0 := by unfold isE; rw [if_pos ⟨by omega, h1.2⟩, if_pos h3, if_pos h4]
        rw [if_pos e]
        exact read_good s h1.1 h1.2 h3 h4 w hI hR
      · have e : isE s.data.toList = 72 := by unfold isE; rw [if_pos ⟨by omega, h1.2⟩, if_pos h3, if_neg h4]
        rw [if_neg (by rw [e]; decide), e]
        exact read_field s h1.1 h1.2 h3 h4 w hI hR
    · have e : isE s.data.toList = 71 := by unfold isE; rw [if_pos ⟨by omega, h1.2⟩, if_neg h3]
      rw [if_neg (by rw [e]; decide), e]
      exact read_check s h1.1 h1.2 h3 w hI hR
  · have e : isE s.data.toList = 70 := by unfold isE; rw [if_neg (by rw [hl]; exact h1)]
    rw [if_neg (by rw [e]; decide), e]
    refine read_form s ?_ w
    by_cases h : s.size = 51
    · exact .inr ⟨h, fun h' => h1 ⟨h, h'⟩⟩
    · exact .inl h
end Go.Proofs.YtffhfmaphjjffaaDoor
