/- A script of calls that came in as an argument: a slice of structs. -/
import Derived.Test.YtkagmoaapampgaaDoorBench
import Derived.Test.YtkagmoaapampgaaDoorRows
import Derived.Deep.Slices
import Derived.Deep.Fields
import Derived.ChangeSame
import Derived.SizedLaws
import Derived.ProofKit
import Derived.OpenShut
namespace Go.Proofs.YtkagmoaapampgaaDoor
open Go.RowKit Go.Lib Go.Joins Base Go.ChangeShapes Go.WideShapes Go.Deep
set_option linter.unusedVariables false
set_option linter.unusedSimpArgs false

section
variable {H : Type} {enc : TypeId × Value → H} {P : Program} {w : World} {base : Nat} {spare : Nat → Bool} {held : Bool}
theorem open_slice_fields {t e : TypeId} {fs : Array Field} {fuel : Nat} {cs : List Value} {x : DataW H × List MemPlace} (ht : P.underlying t = some (.slice e)) (he : P.underlying e = some (.struct fs))
    (hone : oneCellFields P fs = true) (hC : P.cellsOf e = fs.size) (h : DataW.trod enc P w base spare held fuel t cs = some x) :
    (cs = [.slice none 0 0] ∧ x = (.nil, [])) ∨
    ∃ (a : Addr) (len cap m : Nat) (D : Nat → DataW H) (Pl : Nat → List MemPlace), cs = [.slice (some a) len cap] ∧ base ≤ a.block ∧ len ≤ cap ∧ cap ≤ maxLen ∧ m = (if spare a.block then cap else len) ∧
      x = (.slice ((List.range len).map D) ((List.range (m - len)).map fun j => D (len + j)), MemPlace.row a (m * fs.size) ++ (List.range m).flatMap Pl) ∧
      ∀ i, i < m → ∃ (ys : List (DataW H × List MemPlace)) (n : Nat), D i = .agg (ys.map (·.1)) ∧ Pl i = ys.flatMap (·.2) ∧ ys.length = fs.size ∧
        ∀ (j : Nat) (f : Field), fs[j]? = some f → ∃ (v : Value) (y : DataW H × List MemPlace), w.cell? (a.add (i * fs.size + j)) = some v ∧ ys[j]? = some y ∧ DataW.trod enc P w base spare held n f.type [v] = some y := by
  rcases open_slice ht h with h0 | ⟨a, len, cap, m, n, D, Pl, hcs, hb, hl, hm, hmm, hx, hi⟩
  · exact .inl h0
  · refine .inr ⟨a, len, cap, m, D, Pl, hcs, hb, hl, hm, hmm, by rw [hC] at hx; exact hx, fun i him => ?_⟩
    obtain ⟨cs', hc, ht'⟩ := hi i him
    rw [hC] at hc
    obtain ⟨ys, n', hn', hy, hlen, hyl, hf⟩ := DataW.trod_struct he ht'
    obtain ⟨_, hcl, hat⟩ := World.cells?_some hc
    simp only [Prod.mk.injEq] at hy
    refine ⟨ys, n', hy.1, hy.2, hyl, fun j f hj => ?_⟩
    obtain ⟨ho, hk⟩ := hone_of hone j f hj
    have hjl : j < fs.size := (Array.getElem?_eq_some_iff.1 hj).1
    have hcell := hat j hjl
    have hv : cs'[j]? = some (cs'[j]'(by omega)) := List.getElem?_eq_getElem (by omega)
    have h1 := hf j f hj
    rw [ho, hk] at h1
    have hone' : (cs'.drop j).take 1 = [cs'[j]'(by omega)] := by
      rw [List.drop_eq_getElem_cons (by omega)]
      rfl
    rw [hone'] at h1
    have hys : ys[j]? = some (ys[j]'(by omega)) := List.getElem?_eq_getElem (by omega)
    refine ⟨_, _, ?_, hys, h1.trans hys⟩
    rw [← Go.Deep.add_add, hcell, hv]
end
structure MOp where
  kind : Int
  place : Int
  src : Int
  s : ByteArray
/-- The script's cells. -/
def Ops (w : World) (ad : Option Addr) (ops : List MOp) : Prop := ∀ (j : Nat) (o : MOp), ops[j]? = some o → ∃ g off, ad = some ⟨g, off, none⟩ ∧ w.cell? ⟨g, off + j * 4, none⟩ = some (.int .i64 o.kind) ∧ w.cell? ⟨g, off + (j * 4 + 1), none⟩ = some (.int .i64 o.place) ∧ w.cell? ⟨g, off + (j * 4 + 2), none⟩ = some (.int .i64 o.src) ∧ w.cell? ⟨g, off + (j * 4 + 3), none⟩ = some (.string o.s)
def IsOps (w : World) (v : Value) (ops : List MOp) : Prop := ∃ ad cap, v = .slice ad ops.length cap ∧ Ops w ad ops ∧ ops.length ≤ 140737488351232 ∧ ∀ o ∈ ops, o.s.size ≤ 140737488351232 ∧ (-9223372036854775808 ≤ o.place ∧ o.place ≤ 9223372036854775807) ∧ (-9223372036854775808 ≤ o.src ∧ o.src ≤ 9223372036854775807)
theorem Ops.keep {w w' : World} {ad : Option Addr} {ops : List MOp} (h : Ops w ad ops) (f : Fr [] w w') : Ops w' ad ops := by
  intro j o hj
  obtain ⟨g, off, ha, h0, h1, h2, h3⟩ := h j o hj
  have hlt : g < w.heap.size := by
    rcases Nat.lt_or_ge g w.heap.size with h' | h'
    · exact h'
    · simp [World.cell?, Array.getElem?_eq_none h'] at h0
  have hc : ∀ k, w'.cell? ⟨g, k, none⟩ = w.cell? ⟨g, k, none⟩ := fun k => World.cell?_of_block (w := w) (f.block g hlt (by simp))
  exact ⟨g, off, ha, by rw [hc]; exact h0, by rw [hc]; exact h1, by rw [hc]; exact h2, by rw [hc]; exact h3⟩
theorem weightsAll_mem {H : Type} (P : Program) (e : TypeId) (x : DataW H) (n : Nat) (hn : n ∈ x.weights P e) : ∀ (l : List (DataW H)), x ∈ l → n ∈ DataW.weightsAll P e l
  | [], h => by cases h
  | y :: r, h => by
    simp only [DataW.weightsAll, List.mem_append]
    rcases List.mem_cons.1 h with rfl | h
    · exact .inl hn
    · exact .inr (weightsAll_mem P e x n hn r h)
theorem int_range2 {n : Int} (h : (Lit.int .i64 n).wf = true) : -9223372036854775808 ≤ n ∧ n ≤ 9223372036854775807 := by
  have := h
  simp [Lit.wf, IntKind.min, IntKind.max, IntKind.signed, IntKind.bits] at this
  omega
set_option maxRecDepth 100000 in
set_option maxHeartbeats 1000000 in
theorem ops_open {H : Type} {enc : TypeId × Value → H} {W : World} {base : Nat} {v : Value} {d : DataW H} {p : List MemPlace} {ts : List TypeId} {ds : List (DataW H)} {j : Nat}
    (hv : Value.okWide Tryd.prog W .any base 36 v) (h : DataW.Trod enc Tryd.prog W 0 (fun _ => true) true 36 v d p) (hsz : (DataW.weightsEach Tryd.prog ts ds).all (· ≤ reachBytes) = true) (hts : ts[j]? = some 36) (hds : ds[j]? = some d) :
    ∃ ops, IsOps W v ops := by
  have h1 : reachBytes = 140737488351232 := by decide
  obtain ⟨a0, len0, cap0, rfl⟩ := okWide_slice Tryd.underlying36 hv
  obtain ⟨fuel, hf⟩ := h
  rcases open_slice_fields Tryd.underlying36 Tryd.underlying46 (by kernel_rfl) (by kernel_rfl) hf with ⟨hcs, hx⟩ | ⟨a, len, cap, m, D, Pl, hcs, hb, hl, hm, hmm, hx, hel⟩
  · simp [Value.cells] at hcs
    obtain ⟨rfl, rfl, rfl⟩ := hcs
    exact ⟨[], none, 0, rfl, fun j s hj => by simp at hj, by simp, by simp⟩
  · simp [Value.cells] at hcs
    obtain ⟨rfl, rfl, rfl⟩ := hcs
    simp only [Prod.mk.injEq] at hx
    have hcap := sized_slice hsz hts (by rw [hds, hx.1]) Tryd.underlying36
    simp only [List.length_map, List.length_range] at hcap
    have hmc : m = cap0 := by simpa using hmm
    subst hmc
    have h2 : Tryd.prog.bytesOf 46 = 40 := by kernel_rfl
    rw [h1, h2] at hcap
    have key : ∀ i, i < len0 → ∃ o : MOp, W.cell? (a.add (i * 4 + 0)) = some (.int .i64 o.kind) ∧ W.cell? (a.add (i * 4 + 1)) = some (.int .i64 o.place) ∧ W.cell? (a.add (i * 4 + 2)) = some (.int .i64 o.src) ∧ W.cell? (a.add (i * 4 + 3)) = some (.string o.s) ∧ ((-9223372036854775808 ≤ o.place ∧ o.place ≤ 9223372036854775807) ∧ (-9223372036854775808 ≤ o.src ∧ o.src ≤ 9223372036854775807)) ∧ o.s.data.toList.length ∈ (D i).weights Tryd.prog 46 := fun i hi => by
      obtain ⟨ys, n, hD, _, hyl, hfl⟩ := hel i (by omega)
      obtain ⟨v0, y0, c0, e0, t0⟩ := hfl 0 _ rfl
      obtain ⟨v1, y1, c1, e1, t1⟩ := hfl 1 _ rfl
      obtain ⟨v2, y2, c2, e2, t2⟩ := hfl 2 _ rfl
      obtain ⟨v3, y3, c3, e3, t3⟩ := hfl 3 _ rfl
      obtain ⟨n0, g0, rfl, w0⟩ := DataW.trod_int Tryd.underlying3 t0
      obtain ⟨n1, g1, rfl, w1⟩ := DataW.trod_int Tryd.underlying3 t1
      obtain ⟨n2, g2, rfl, w2⟩ := DataW.trod_int Tryd.underlying3 t2
      obtain ⟨s2, g3, rfl, _⟩ := DataW.trod_string Tryd.underlying9 t3
      simp only [List.cons.injEq, and_true] at g0 g1 g2 g3
      subst g0 g1 g2 g3
      refine ⟨⟨n0, n1, n2, s2⟩, c0, c1, c2, c3, ⟨int_range2 w1, int_range2 w2⟩, ?_⟩
      have hys : ys = [(.lit (.int .i64 n0), []), (.lit (.int .i64 n1), []), (.lit (.int .i64 n2), []), (.lit (.string s2.data.toList), [])] := by
        match ys, hyl, e0, e1, e2, e3 with
        | [_, _, _, _], _, e0, e1, e2, e3 =>
          simp at e0 e1 e2 e3
          rw [e0, e1, e2, e3]
      have hW : (D i).weights Tryd.prog 46 = [s2.data.toList.length] := by
        rw [hD, hys]
        simp only [List.map_cons, List.map_nil, DataW.weights, Tryd.underlying46]
        rfl
      rw [hW]; simp
    have hsp : 0 < len0 → a.spot = none := fun h0 => by
      obtain ⟨o, c0, _⟩ := key 0 h0
      cases a with
      | mk b o sp =>
        cases sp with
        | none => rfl
        | some x =>
          simp [Addr.add, World.cell?] at c0
          split at c0 <;> simp at c0
    obtain ⟨f, hfk⟩ : ∃ f : Nat → MOp, ∀ i, i < len0 → W.cell? (a.add (i * 4 + 0)) = some (.int .i64 (f i).kind) ∧ W.cell? (a.add (i * 4 + 1)) = some (.int .i64 (f i).place) ∧ W.cell? (a.add (i * 4 + 2)) = some (.int .i64 (f i).src) ∧ W.cell? (a.add (i * 4 + 3)) = some (.string (f i).s) ∧ ((-9223372036854775808 ≤ (f i).place ∧ (f i).place ≤ 9223372036854775807) ∧ (-9223372036854775808 ≤ (f i).src ∧ (f i).src ≤ 9223372036854775807)) ∧ (f i).s.data.toList.length ∈ (D i).weights Tryd.prog 46 := by
      refine ⟨fun i => if hi : i < len0 then Classical.choose (key i hi) else ⟨0, 0, 0, ⟨#[]⟩⟩, fun i hi => ?_⟩
      simp only [dif_pos hi]
      exact Classical.choose_spec (key i hi)
    refine ⟨(List.range len0).map f, some a, m, by simp, ?_, by simp; omega, ?_⟩
    · intro j o hj
      obtain ⟨hi, ho⟩ : j < len0 ∧ o = f j := by
        rw [List.getElem?_map] at hj
        rcases Nat.lt_or_ge j len0 with h' | h'
        · rw [List.getElem?_range h'] at hj
          injection hj with hj
          exact ⟨h', hj.symm⟩
        · rw [List.getElem?_eq_none (by simpa using h')] at hj; cases hj
      subst ho
      obtain ⟨c0, c1, c2, c3, _⟩ := hfk j hi
      have hs := hsp (by omega)
      cases a with
      | mk b off sp =>
        simp only at hs
        subst hs
        refine ⟨b, off, rfl, ?_, ?_, ?_, ?_⟩
        · rw [addr_add'] at c0; exact c0
        · rw [addr_add'] at c1; exact c1
        · rw [addr_add'] at c2; exact c2
        · rw [addr_add'] at c3; exact c3
    · intro o ho
      obtain ⟨i, hi, rfl⟩ := List.mem_map.1 ho
      have hi' : i < len0 := List.mem_range.1 hi
      obtain ⟨_, _, _, _, hr, hw⟩ := hfk i hi'
      refine ⟨?_, hr⟩
      have hw2 : (f i).s.data.toList.length ∈ d.weights Tryd.prog 36 := by
        rw [hx.1]
        simp only [DataW.weights, Tryd.underlying36, List.mem_cons, List.mem_append]
        exact .inr (.inl (weightsAll_mem _ _ (D i) _ hw _ (List.mem_map.2 ⟨i, hi, rfl⟩)))
      have := List.all_eq_true.1 hsz _ (DataW.weights_mem_each hts hds _ hw2)
      rw [h1] at this
      simpa using this
end Go.Proofs.YtkagmoaapampgaaDoor
