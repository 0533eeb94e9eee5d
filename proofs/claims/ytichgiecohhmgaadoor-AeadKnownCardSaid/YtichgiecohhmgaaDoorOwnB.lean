/- Bytes of a text that grow: a row that may bear a mark behind its last cell, and grows by one byte. No program here. -/
import Derived.Test.YtichgiecohhmgaaDoorRow
import Derived.ArgAppend
namespace Go.Proofs.YtichgiecohhmgaaDoor.Base
open Go.RowKit Go.Lib Go.Joins
set_option linter.unusedVariables false
set_option linter.unusedSimpArgs false

/-- v: a slice of just these bytes, in a block that is not older than base; the cells behind them may be written. -/
def OwnB (w : World) (base : Nat) (v : Value) (xs : List UInt8) : Prop :=
  ∃ g cap, v = .slice (some ⟨g, 0, none⟩) xs.length cap ∧ base ≤ g ∧ g < w.heap.size ∧ xs.length ≤ cap ∧ cap ≤ maxLen ∧ (∀ j u, (byteCells xs)[j]? = some u → w.cell? ⟨g, j, none⟩ = some u) ∧
    (∀ j, xs.length ≤ j → j < cap → (w.cell? ⟨g, j, none⟩).isSome = true ∧ w.frozen? ⟨g, j, none⟩ = false)
theorem OwnB.ofStr {w : World} {g cap : Nat} {T : TypeId} {xs : List UInt8} {rest : List Value} (h : AtS w g T (byteCells xs ++ rest)) (base : Nat) (hb : base ≤ g) (hc : cap = xs.length + rest.length) (hm : cap ≤ maxLen) : OwnB w base (.slice (some ⟨g, 0, none⟩) xs.length cap) xs := by
  refine ⟨g, cap, rfl, hb, h.lt, by omega, hm, fun j u hj => ?_, fun j h1 h2 => ⟨?_, ?_⟩⟩
  · have hlt : j < (byteCells xs).length := by
      rcases Nat.lt_or_ge j (byteCells xs).length with h' | h'
      · exact h'
      · rw [List.getElem?_eq_none h'] at hj; cases hj
    rw [h.cell, List.getElem?_append_left hlt]; exact hj
  · rw [h.cell, List.getElem?_eq_getElem (by simp [byteCells_length]; omega)]; rfl
  · exact h.frozen _ (by simp [byteCells_length]; omega)
theorem OwnB.ofOwn {w : World} {base n : Nat} {e : TypeId} {v : Value} {xs : List UInt8} (h : w.ownsRow base e 1 v n (byteCells xs)) (hn : xs ≠ []) : OwnB w base v xs := by
  have hl : xs.length = n := by have := h.1; rw [byteCells_length] at this; omega
  obtain ⟨_, ⟨h', h0⟩ | ⟨g, cap, cur, hv, hb, hg, h1, h2, h3, ht⟩⟩ := h
  · exfalso; apply hn; apply List.eq_nil_of_length_eq_zero; omega
  · subst hl
    have hA : At w g e cur.toList := by unfold At; rw [hg]
    have hcs : cur.toList.length = cap := by simpa using h3
    refine ⟨g, cap, hv, hb, hA.lt, h1, h2, fun j u hj => ?_, fun j j1 j2 => ⟨?_, hA.frozen j⟩⟩
    · rw [hA.cell, ← hj, ← ht, List.getElem?_take, if_pos]
      rcases Nat.lt_or_ge j xs.length with h' | h'
      · omega
      · rw [List.getElem?_eq_none (by rw [byteCells_length]; omega)] at hj; cases hj
    · rw [hA.cell, List.getElem?_eq_getElem (by omega)]; rfl
theorem OwnB.keep {w w' : World} {base : Nat} {v : Value} {xs : List UInt8} (h : OwnB w base v xs) (f : Fr [] w w') : OwnB w' base v xs := by
  obtain ⟨g, cap, hv, hb, hg, h1, h2, h3, h4⟩ := h
  have hc : ∀ j, w'.cell? ⟨g, j, none⟩ = w.cell? ⟨g, j, none⟩ := fun j => World.cell?_of_block (w := w) (f.block g hg (by simp))
  have hf : ∀ j, w'.frozen? ⟨g, j, none⟩ = w.frozen? ⟨g, j, none⟩ := fun j => World.frozen?_of_block (w := w) (f.block g hg (by simp))
  exact ⟨g, cap, hv, hb, Nat.lt_of_lt_of_le hg f.size, h1, h2, fun j u hj => by rw [hc]; exact h3 j u hj, fun j a b => by rw [hc, hf]; exact h4 j a b⟩
/-- []byte(s), as such a row. -/
theorem run_ofStrB {P : Program} (w : World) (src dst e : TypeId) (s : ByteArray) (hs : P.underlying src = some .string) (hd : P.underlying dst = some (.slice e)) (he : P.underlying e = some (.int .u8)) (hm : s.size ≤ 140737488355328) :
    ∃ cap W, (convert src dst (.string s)).run P w = .ok (.slice (some ⟨w.heap.size, 0, none⟩) s.size cap) W ∧ OwnB W w.heap.size (.slice (some ⟨w.heap.size, 0, none⟩) s.size cap) s.data.toList ∧ Fr [] w W := by
  have hl : s.data.toList.length = s.size := by simp
  have hge := grownCap_ge w s.size 0 e
  have hle := grownCap_le_maxLen w s.size 0 e (by unfold maxLen; omega)
  have hF := fun (o : Obj) => (Fr.drew [] w).trans (Fr.alloc [] w.drew o)
  refine ⟨grownCap w s.size 0 e, _, run_bytes_of_string w src dst e s hs hd he, ?_, hF _⟩
  have e1 : bytesRow s (grownCap w s.size 0 e) = (byteCells s.data.toList ++ List.replicate (grownCap w s.size 0 e - s.size) (Value.int .u8 0)).toArray := by
    apply Array.toList_inj.1
    simp [bytesRow, byteCells]
  have hA : AtS (w.drew.alloc (.cells (bytesRow s (grownCap w s.size 0 e)) e ((bytesRow s (grownCap w s.size 0 e)).size, (bytesRow s (grownCap w s.size 0 e)).size + 1))) w.heap.size e (byteCells s.data.toList ++ List.replicate (grownCap w s.size 0 e - s.size) (Value.int .u8 0)) := by
    rw [e1, List.size_toArray]
    unfold AtS
    show (w.heap.push _)[w.heap.size]? = _
    simp
  have := OwnB.ofStr (cap := grownCap w s.size 0 e) hA w.heap.size (Nat.le_refl _) (by simp; omega) hle
  rw [hl] at this
  exact this
section
variable {P : Program} {t e : TypeId}
/-- append of one byte. -/
theorem run_appOwnB (ht : P.underlying t = some (.slice e)) (hi : (P.info? e).map (fun i => (i.zero, i.size, i.bytes)) = some (some (.int .u8 0), 1, 1)) (ty : TypeId) {w : World} {base h' : Nat} {v : Value} {xs : List UInt8} {y : UInt8} {T : TypeId}
    (h : OwnB w base v xs) (hh : At w h' T [.int .u8 (bt y)]) (hb : base ≤ w.heap.size) (hs : xs.length < 140737488355328) :
    ∃ v' w', (Builtin.append_ #[t, t] ty #[v, .slice (some ⟨h', 0, none⟩) 1 1]).run P w = .ok v' w' ∧ OwnB w' base v' (xs ++ [y]) ∧ Below base w w' := by
  obtain ⟨i, hi, hz0, hz1, hz2⟩ := info_parts hi
  obtain ⟨g, cap, rfl, hbg, hg, h1, h2, h3, h4⟩ := h
  have hnews : ∀ j u, [Value.int .u8 (bt y)][j]? = some u → w.cell? ((⟨h', 0, none⟩ : Addr).add j) = some u := fun j u hj => by rw [addr_add', Nat.zero_add, hh.cell]; exact hj
  by_cases hr : xs.length + 1 ≤ cap
  · have hrun := run_append_room_cells (P := P) w t ty e i ht hi g 0 xs.length cap ⟨h', 0, none⟩ 1 1 [.int .u8 (bt y)] (by rw [hz1]; rfl) hnews (by intro u hu; simp at hu; subst hu; rfl) hr
      (fun j hj => by simp at hj; subst hj; rw [hz1, Nat.mul_one, Nat.zero_add, Nat.add_zero]; exact (h4 _ (Nat.le_refl _) (by omega)).1) (fun j hj => by simp at hj; subst hj; rw [hz1, Nat.mul_one, Nat.zero_add, Nat.add_zero]; exact (h4 _ (Nat.le_refl _) (by omega)).2)
    rw [hz1, Nat.mul_one, Nat.zero_add] at hrun
    have e1 : w.setCells g xs.length [.int .u8 (bt y)] = w.setCell ⟨g, xs.length, none⟩ (.int .u8 (bt y)) := rfl
    rw [e1] at hrun
    have hcell : ∀ j, j ≠ xs.length → (w.setCell ⟨g, xs.length, none⟩ (.int .u8 (bt y))).cell? ⟨g, j, none⟩ = w.cell? ⟨g, j, none⟩ := fun j hj => World.cell?_setCell_other _ _ _ _ (by intro hx; injection hx with _ h2; exact hj h2.symm)
    have hfz : ∀ j, (w.setCell ⟨g, xs.length, none⟩ (.int .u8 (bt y))).frozen? ⟨g, j, none⟩ = w.frozen? ⟨g, j, none⟩ := fun j => World.frozen?_setCell _ _ _ _
    refine ⟨_, _, hrun, ⟨g, cap, by rw [List.length_append]; rfl, hbg, by simpa [World.setCell] using hg, by rw [List.length_append]; exact hr, h2, fun j u hj => ?_, fun j j1 j2 => ?_⟩, (Below.refl _ _).setCell hbg _⟩
    · by_cases hje : j = xs.length
      · subst hje
        have hu : u = .int .u8 (bt y) := by
          simp only [byteCells, List.map_append] at hj
          rw [List.getElem?_append_right (by simp)] at hj
          simpa [bt] using hj.symm
        rw [hu]
        obtain ⟨u0, hu0⟩ := Option.isSome_iff_exists.1 (h4 _ (Nat.le_refl _) (by omega)).1
        exact World.cell?_setCell_same _ _ _ hu0
      · rw [hcell j hje]
        refine h3 j u ?_
        rcases Nat.lt_or_ge j xs.length with h' | h'
        · simp only [byteCells, List.map_append] at hj ⊢
          rw [List.getElem?_append_left (by simpa using h')] at hj; exact hj
        · rw [List.getElem?_eq_none (by rw [byteCells_length, List.length_append]; simp; omega)] at hj; cases hj
    · rw [List.length_append] at j1
      have hje : j ≠ xs.length := by simp at j1; omega
      rw [hcell j hje, hfz]
      exact h4 j (by simp at j1; omega) j2
  · obtain ⟨v', w', hrun, r1, r2⟩ := run_append_arg_grows (P := P) w t ty e i (.int .u8 0) 1 1 ht hi hz0 hz1 hz2 rfl (by decide) ⟨g, 0, none⟩ xs.length cap (byteCells xs) (by rw [byteCells_length, Nat.mul_one]) (fun j u hj => by rw [addr_add', Nat.zero_add]; exact h3 j u hj) ⟨h', 0, none⟩ 1 1 [.int .u8 (bt y)] rfl hnews (by omega) (by unfold maxLen at *; omega) (by omega)
    have e2 : byteCells xs ++ [.int .u8 (bt y)] = byteCells (xs ++ [y]) := by simp [byteCells, bt]
    rw [e2] at r1
    have ho := OwnB.ofOwn r1 (by simp)
    obtain ⟨g', cap', hv', hb', r⟩ := ho
    exact ⟨v', w', hrun, ⟨g', cap', hv', by omega, r⟩, (Below.refl _ _).grown r2 hb (by intro k hk; cases hk)⟩
/-- string(b[:n]) reads the first n bytes. -/
theorem run_strOwnB (ht : P.underlying t = some (.slice e)) (he : P.underlying e = some (.int .u8)) {d : TypeId} (hd : P.underlying d = some .string) {w : World} {base g n cap cap2 : Nat} {xs : List UInt8}
    (h : OwnB w base (.slice (some ⟨g, 0, none⟩) xs.length cap) xs) (hn : n ≤ xs.length) : (convert t d (.slice (some ⟨g, 0, none⟩) n cap2)).run P w = .ok (.string ⟨(xs.take n).toArray⟩) w := by
  obtain ⟨g', cap', hv, hb, hg, h1, h2, h3, h4⟩ := h
  simp only [Value.slice.injEq, Option.some.injEq, Addr.mk.injEq, and_true, true_and] at hv
  obtain ⟨rfl, rfl⟩ := hv
  have := run_convert_bytes_arg (P := P) w t e ht he g 0 n cap2 ((xs.take n).map fun x => (x.toNat : Int)) (by simp; omega) (fun i hi => by
    rw [Nat.zero_add, h3 i (.int .u8 (xs[i]'(by omega)).toNat) (by simp [byteCells, show i < xs.length by omega])]
    simp [List.getD, List.getElem?_take, hi, show i < xs.length by omega]) d hd
  rw [this]
  congr 2
  apply ByteArray.ext
  apply Array.toList_inj.1
  rw [strOfNums_data, List.map_map]
  conv => rhs; rw [← List.map_id (xs.take n)]
  apply List.map_congr_left
  intro x _
  simp
end
end Go.Proofs.YtichgiecohhmgaaDoor.Base
