/- casket/casketlaw8.Box: a slice of structs that came in as an argument. (mkslice.py wrote it.) -/
import Derived.Test.YthalpgandfbkdaaIdlI
import Derived.Test.YthalpgandfbkdaaRows
import Derived.Deep.Slices
import Derived.Deep.Fields
import Derived.ChangeSame
import Derived.SizedLaws
import Derived.ProofKit
import Derived.OpenShut
namespace Go.Proofs.Ythalpgandfbkdaa
open Go.RowKit Go.Lib Go.Joins Base Go.ChangeShapes Go.WideShapes Go.Deep
set_option linter.unusedVariables false
set_option linter.unusedSimpArgs false

section
variable {H : Type} {enc : TypeId × Value → H} {P : Program} {w : World} {base : Nat} {spare : Nat → Bool} {held : Bool}
theorem open_slice_fields {t e : TypeId} {fs : Array Field} {fuel : Nat} {cs : List Value} {x : DataW H × List MemPlace} (ht : P.underlying t = some (.slice e)) (he : P.underlying e = some (.struct fs))
    (hone : oneCellFields P fs = true) (hC : P.cellsOf e = fs.size) (h : DataW.trod enc P w base spare held fuel t cs = some x) :
    (cs = [.slice none 0 0] ∧ x = (.nil, [])) ∨
    ∃ (a : Addr) (len cap m : Nat) (D : Nat → DataW H) (Pl : Nat → List MemPlace), cs = [.slice (some a) len cap] ∧ base ≤ a.block ∧ len ≤ cap ∧ cap ≤ maxLen ∧ m = (if spare a.block then cap else len) ∧
      x = (.slice ((List.range len).map D) ((List.range (m - len)).map fun j => D (len + j)), MemPlace.row a (m * fs.size) ++ (List.range m).flatMap Pl) ∧
      ∀ i, i < m → ∃ (ys : List (DataW H × List MemPlace)) (n : Nat), D i = .agg (ys.map (·.1)) ∧ Pl i = ys.flatMap (·.2) ∧ ys.length = fs.size ∧
        ∀ (j : Nat) (f : Field), fs[j]? = some f → ∃ (v : Value) (y : DataW H × List MemPlace), w.cell? (a.add (i * fs.size + j)) = some v ∧ ys[j]? = some y ∧ DataW.trod enc P w base spare held n f.type [v] = some y := by
  rcases open_slice ht h with h0 | ⟨a, len, cap, m, n, D, Pl, hcs, hb, hl, hm, hmm, hx, hi⟩
  · exact .inl h0
  · refine .inr ⟨a, len, cap, m, D, Pl, hcs, hb, hl, hm, hmm, by rw [hC] at hx; exact hx, fun i him => ?_⟩
    obtain ⟨cs', hc, ht'⟩ := hi i him
    rw [hC] at hc
    obtain ⟨ys, n', hn', hy, hlen, hyl, hf⟩ := DataW.trod_struct he ht'
    obtain ⟨_, hcl, hat⟩ := World.cells?_some hc
    simp only [Prod.mk.injEq] at hy
    refine ⟨ys, n', hy.1, hy.2, hyl, fun j f hj => ?_⟩
    obtain ⟨ho, hk⟩ := hone_of hone j f hj
    have hjl : j < fs.size := (Array.getElem?_eq_some_iff.1 hj).1
    have hcell := hat j hjl
    have hv : cs'[j]? = some (cs'[j]'(by omega)) := List.getElem?_eq_getElem (by omega)
    have h1 := hf j f hj
    rw [ho, hk] at h1
    have hone' : (cs'.drop j).take 1 = [cs'[j]'(by omega)] := by
      rw [List.drop_eq_getElem_cons (by omega)]
      rfl
    rw [hone'] at h1
    have hys : ys[j]? = some (ys[j]'(by omega)) := List.getElem?_eq_getElem (by omega)
    refine ⟨_, _, ?_, hys, h1.trans hys⟩
    rw [← Go.Deep.add_add, hcell, hv]
end
theorem weightsAll_mem {H : Type} (P : Program) (e : TypeId) (x : DataW H) (n : Nat) (hn : n ∈ x.weights P e) : ∀ (l : List (DataW H)), x ∈ l → n ∈ DataW.weightsAll P e l
  | [], h => by cases h
  | y :: r, h => by
    simp only [DataW.weightsAll, List.mem_append]
    rcases List.mem_cons.1 h with rfl | h
    · exact .inl hn
    · exact .inr (weightsAll_mem P e x n hn r h)
theorem add_block (a : Addr) (j : Nat) : (a.add j).block = a.block := by
  unfold Addr.add
  split <;> rfl
theorem flat_at {α : Type} (f : α → List Value) (k : Nat) (hf : ∀ x, (f x).length = k) : ∀ (l : List α) (j : Nat) (x : α), l[j]? = some x → ∀ i, i < k → (l.flatMap f)[j * k + i]? = (f x)[i]?
  | [], j, x, h, _, _ => by simp at h
  | a :: l, 0, x, h, i, hi => by
    simp at h; subst h
    rw [List.flatMap_cons, Nat.zero_mul, Nat.zero_add, List.getElem?_append_left (by rw [hf]; exact hi)]
  | a :: l, j + 1, x, h, i, hi => by
    rw [List.getElem?_cons_succ] at h
    rw [List.flatMap_cons, List.getElem?_append_right (by rw [hf, Nat.add_mul]; omega), hf, show (j + 1) * k + i - k = j * k + i by rw [Nat.add_mul]; omega]
    exact flat_at f k hf l j x h i hi
theorem flat_len {α : Type} (f : α → List Value) (k : Nat) (hf : ∀ x, (f x).length = k) : ∀ l : List α, (l.flatMap f).length = l.length * k
  | [] => by simp
  | a :: l => by rw [List.flatMap_cons, List.length_append, hf, flat_len f k hf l, List.length_cons, Nat.add_mul]; omega
theorem bxC_len (x : Bx) : (bxC x).length = 4 := rfl
def IsBoxes (w : World) (v : Value) (l : List Bx) : Prop := ((v = .slice none 0 0 ∧ l = []) ∨ ∃ ad cap, v = .slice (some ad) l.length cap ∧ (∀ j u, (l.flatMap bxC)[j]? = some u → w.cell? (ad.add j) = some u) ∧ (l ≠ [] → ∃ g off, ad = ⟨g, off, none⟩)) ∧ l.length * 48 ≤ 140737488351232 ∧ ∀ x ∈ l, x.name.size ≤ 140737488351232 ∧ x.text.size ≤ 140737488351232
theorem IsBoxes.keep {w w' : World} {v : Value} {l : List Bx} (h : IsBoxes w v l) (f : Fr [] w w') : IsBoxes w' v l := by
  obtain ⟨h0 | ⟨ad, cap, h1, h2, h3⟩, h4, h5⟩ := h
  · exact ⟨.inl h0, h4, h5⟩
  · refine ⟨.inr ⟨ad, cap, h1, fun j u hj => ?_, h3⟩, h4, h5⟩
    have hc := h2 j u hj
    have hlt : ad.block < w.heap.size := by
      rcases Nat.lt_or_ge ad.block w.heap.size with h' | h'
      · exact h'
      · simp [World.cell?, add_block, Array.getElem?_eq_none h'] at hc
    rw [← hc]
    exact World.cell?_of_block (w := w) (by rw [add_block]; exact f.block ad.block hlt (by simp))
/-- One struct of it. -/
theorem IsBoxes.at {w : World} {v : Value} {l : List Bx} (h : IsBoxes w v l) (j : Nat) (x : Bx) (hj : l[j]? = some x) :
    ∃ g off cap, v = .slice (some ⟨g, off, none⟩) l.length cap ∧ w.cell? ⟨g, off + (j * 4 + 0), none⟩ = some (.int .i64 x.k) ∧ w.cell? ⟨g, off + (j * 4 + 1), none⟩ = some (.string x.name) ∧ w.cell? ⟨g, off + (j * 4 + 2), none⟩ = some (.string x.text) ∧ w.cell? ⟨g, off + (j * 4 + 3), none⟩ = some (.int .i64 x.seed) := by
  have hne : l ≠ [] := by rintro rfl; simp at hj
  obtain ⟨h0 | ⟨ad, cap, h1, h2, h3⟩, _⟩ := h
  · exact absurd h0.2 hne
  · obtain ⟨g, off, rfl⟩ := h3 hne
    have hc : ∀ i, i < 4 → w.cell? ⟨g, off + (j * 4 + i), none⟩ = (bxC x)[i]? := fun i hi => by
      have e := flat_at bxC 4 bxC_len l j x hj i hi
      have hs : (bxC x)[i]? = some ((bxC x)[i]'(by rw [bxC_len]; exact hi)) := List.getElem?_eq_getElem _
      have := h2 _ _ (e.trans hs)
      rw [hs, ← this, addr_add']
    exact ⟨g, off, cap, h1, hc 0 (by omega), hc 1 (by omega), hc 2 (by omega), hc 3 (by omega)⟩
set_option maxRecDepth 100000 in
set_option maxHeartbeats 1000000 in
theorem isboxes_open {H : Type} {enc : TypeId × Value → H} {W : World} {base : Nat} {v : Value} {d : DataW H} {p : List MemPlace} {ts : List TypeId} {ds : List (DataW H)} {j : Nat}
    (hv : Value.okWide Try.prog W .any base 37 v) (h : DataW.Trod enc Try.prog W 0 (fun _ => true) true 37 v d p) (hsz : (DataW.weightsEach Try.prog ts ds).all (· ≤ reachBytes) = true) (hts : ts[j]? = some 37) (hds : ds[j]? = some d) :
    ∃ l, IsBoxes W v l := by
  have h1 : reachBytes = 140737488351232 := by decide
  obtain ⟨a0, len0, cap0, rfl⟩ := okWide_slice Try.underlying37 hv
  obtain ⟨fuel, hf⟩ := h
  rcases open_slice_fields Try.underlying37 Try.underlying44 (by kernel_rfl) (by kernel_rfl) hf with ⟨hcs, hx⟩ | ⟨a, len, cap, m, D, Pl, hcs, hb, hl, hm, hmm, hx, hel⟩
  · simp [Value.cells] at hcs
    obtain ⟨rfl, rfl, rfl⟩ := hcs
    exact ⟨[], .inl ⟨rfl, rfl⟩, by simp, by simp⟩
  · simp [Value.cells] at hcs
    obtain ⟨rfl, rfl, rfl⟩ := hcs
    simp only [Prod.mk.injEq] at hx
    have hcap := sized_slice hsz hts (by rw [hds, hx.1]) Try.underlying37
    simp only [List.length_map, List.length_range] at hcap
    have hmc : m = cap0 := by simpa using hmm
    subst hmc
    have h2 : Try.prog.bytesOf 44 = 48 := by kernel_rfl
    rw [h1, h2] at hcap
    have key : ∀ i, i < len0 → ∃ o : Bx, W.cell? (a.add (i * 4 + 0)) = some (.int .i64 o.k) ∧ W.cell? (a.add (i * 4 + 1)) = some (.string o.name) ∧ W.cell? (a.add (i * 4 + 2)) = some (.string o.text) ∧ W.cell? (a.add (i * 4 + 3)) = some (.int .i64 o.seed) ∧ o.name.data.toList.length ∈ (D i).weights Try.prog 44 ∧ o.text.data.toList.length ∈ (D i).weights Try.prog 44 := fun i hi => by
      obtain ⟨ys, n, hD, _, hyl, hfl⟩ := hel i (by omega)
      obtain ⟨v0, y0, c0, e0, t0⟩ := hfl 0 _ rfl
      obtain ⟨v1, y1, c1, e1, t1⟩ := hfl 1 _ rfl
      obtain ⟨v2, y2, c2, e2, t2⟩ := hfl 2 _ rfl
      obtain ⟨v3, y3, c3, e3, t3⟩ := hfl 3 _ rfl
      obtain ⟨n0, g0, rfl, w0⟩ := DataW.trod_int Try.underlying3 t0
      obtain ⟨n1, g1, rfl, _⟩ := DataW.trod_string Try.underlying9 t1
      obtain ⟨n2, g2, rfl, _⟩ := DataW.trod_string Try.underlying9 t2
      obtain ⟨n3, g3, rfl, w3⟩ := DataW.trod_int Try.underlying3 t3
      simp only [List.cons.injEq, and_true] at g0 g1 g2 g3
      subst g0 g1 g2 g3
      have hys : ys = [(.lit (.int .i64 n0), []), (.lit (.string n1.data.toList), []), (.lit (.string n2.data.toList), []), (.lit (.int .i64 n3), [])] := by
        match ys, hyl, e0, e1, e2, e3 with
        | [_, _, _, _], _, e0, e1, e2, e3 =>
          simp at e0 e1 e2 e3
          rw [e0, e1, e2, e3]
      have hW : (D i).weights Try.prog 44 = [n1.data.toList.length, n2.data.toList.length] := by
        rw [hD, hys]
        simp only [List.map_cons, List.map_nil, DataW.weights, Try.underlying44]
        rfl
      refine ⟨⟨n0, n1, n2, n3⟩, c0, c1, c2, c3, ?_, ?_⟩
      · rw [hW]; simp
      · rw [hW]; simp
    have hsp : 0 < len0 → a.spot = none := fun h0 => by
      obtain ⟨o, c0, _⟩ := key 0 h0
      cases a with
      | mk b o sp =>
        cases sp with
        | none => rfl
        | some x =>
          simp [Addr.add, World.cell?] at c0
          split at c0 <;> simp at c0
    obtain ⟨f, hfk⟩ : ∃ f : Nat → Bx, ∀ i, i < len0 → W.cell? (a.add (i * 4 + 0)) = some (.int .i64 (f i).k) ∧ W.cell? (a.add (i * 4 + 1)) = some (.string (f i).name) ∧ W.cell? (a.add (i * 4 + 2)) = some (.string (f i).text) ∧ W.cell? (a.add (i * 4 + 3)) = some (.int .i64 (f i).seed) ∧ (f i).name.data.toList.length ∈ (D i).weights Try.prog 44 ∧ (f i).text.data.toList.length ∈ (D i).weights Try.prog 44 := by
      refine ⟨fun i => if hi : i < len0 then Classical.choose (key i hi) else ⟨0, ⟨#[]⟩, ⟨#[]⟩, 0⟩, fun i hi => ?_⟩
      simp only [dif_pos hi]
      exact Classical.choose_spec (key i hi)
    refine ⟨(List.range len0).map f, .inr ⟨a, m, by simp, ?_, ?_⟩, by simp; omega, ?_⟩
    · intro q u hq
      have hlen := flat_len bxC 4 bxC_len ((List.range len0).map f)
      rw [List.length_map, List.length_range] at hlen
      have hql := (List.getElem?_eq_some_iff.1 hq).1
      have hqk : q / 4 < len0 := by omega
      have e := flat_at bxC 4 bxC_len ((List.range len0).map f) (q / 4) (f (q / 4)) (by rw [List.getElem?_map, List.getElem?_range hqk]; rfl) (q % 4) (Nat.mod_lt _ (by omega))
      rw [show q / 4 * 4 + q % 4 = q by omega, hq] at e
      obtain ⟨c0, c1, c2, c3, _⟩ := hfk (q / 4) hqk
      have hm : q % 4 = 0 ∨ q % 4 = 1 ∨ q % 4 = 2 ∨ q % 4 = 3 := by omega
      rcases hm with hm | hm | hm | hm
      · rw [hm] at e
        rw [show q = q / 4 * 4 + 0 by omega, c0]
        exact e.symm
      · rw [hm] at e
        rw [show q = q / 4 * 4 + 1 by omega, c1]
        exact e.symm
      · rw [hm] at e
        rw [show q = q / 4 * 4 + 2 by omega, c2]
        exact e.symm
      · rw [hm] at e
        rw [show q = q / 4 * 4 + 3 by omega, c3]
        exact e.symm
    · intro hne
      have h0 : 0 < len0 := by
        rcases Nat.eq_zero_or_pos len0 with h | h
        · subst h; exact absurd rfl hne
        · exact h
      have hs := hsp h0
      cases a with
      | mk b off sp =>
        simp only at hs
        subst hs
        exact ⟨b, off, rfl⟩
    · intro o ho
      obtain ⟨i, hi, rfl⟩ := List.mem_map.1 ho
      have hi' : i < len0 := List.mem_range.1 hi
      obtain ⟨_, _, _, _, hw0, hw1⟩ := hfk i hi'
      have hw : ∀ s : ByteArray, s.data.toList.length ∈ (D i).weights Try.prog 44 → s.size ≤ 140737488351232 := fun s hs => by
        have hw2 : s.data.toList.length ∈ d.weights Try.prog 37 := by
          rw [hx.1]
          simp only [DataW.weights, Try.underlying37, List.mem_cons, List.mem_append]
          exact .inr (.inl (weightsAll_mem _ _ (D i) _ hs _ (List.mem_map.2 ⟨i, hi, rfl⟩)))
        have := List.all_eq_true.1 hsz _ (DataW.weights_mem_each hts hds _ hw2)
        rw [h1] at this
        simpa using this
      exact ⟨hw _ hw0, hw _ hw1⟩
end Go.Proofs.Ythalpgandfbkdaa
