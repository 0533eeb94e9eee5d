/- A split's data that came in as an argument, by value. -/
import Derived.Test.YtffhfmaphjjffaaDoorShrSplit
import Derived.Test.YtffhfmaphjjffaaDoorRows
import Derived.Lib.SmallJoins
import Derived.SizedLaws
import Derived.ProofKit
import Derived.OpenShut
namespace Go.Proofs.YtffhfmaphjjffaaDoor
open Go.RowKit Go.Lib Go.Joins Base Go.ChangeShapes Go.WideShapes Go.Deep
set_option linter.unusedVariables false
set_option linter.unusedSimpArgs false

section
variable {H : Type} {enc : TypeId × Value → H} {P : Program} {w : World} {base : Nat} {spare : Nat → Bool} {held : Bool}
theorem open_agg5 {r : Reach} {b0 : Nat} {t : TypeId} {f0 f1 f2 f3 f4 : Field} {v : Value} {d : DataW H} {p : List MemPlace} (hs : P.underlying t = some (.struct #[f0, f1, f2, f3, f4])) (hone : oneCellFields P #[f0, f1, f2, f3, f4] = true) (hC : P.cellsOf t = 5)
    (hv : Value.okWide P w r b0 t v) (h : DataW.Trod enc P w base spare held t v d p) :
    ∃ (v0 v1 v2 v3 v4 : Value) (y0 y1 y2 y3 y4 : DataW H × List MemPlace) (n : Nat), v = .agg #[v0, v1, v2, v3, v4] ∧ d = .agg [y0.1, y1.1, y2.1, y3.1, y4.1] ∧ p = y0.2 ++ (y1.2 ++ (y2.2 ++ (y3.2 ++ y4.2))) ∧
      DataW.trod enc P w base spare held n f0.type [v0] = some y0 ∧ DataW.trod enc P w base spare held n f1.type [v1] = some y1 ∧ DataW.trod enc P w base spare held n f2.type [v2] = some y2 ∧ DataW.trod enc P w base spare held n f3.type [v3] = some y3 ∧ DataW.trod enc P w base spare held n f4.type [v4] = some y4 := by
  obtain ⟨cs, rfl, hsz⟩ := okWide_struct hs hv
  obtain ⟨l⟩ := cs
  match l, hsz.trans hC with
  | [c0, c1, c2, c3, c4], _ =>
    obtain ⟨fuel, hf⟩ := h
    obtain ⟨xs, n, _, hx, _, hlen, hg⟩ := DataW.trod_struct hs hf
    obtain ⟨o0, k0⟩ := hone_of hone 0 f0 rfl
    obtain ⟨o1, k1⟩ := hone_of hone 1 f1 rfl
    obtain ⟨o2, k2⟩ := hone_of hone 2 f2 rfl
    obtain ⟨o3, k3⟩ := hone_of hone 3 f3 rfl
    obtain ⟨o4, k4⟩ := hone_of hone 4 f4 rfl
    match xs, hlen with
    | [y0, y1, y2, y3, y4], _ =>
      simp only [Prod.mk.injEq] at hx
      exact ⟨c0, c1, c2, c3, c4, y0, y1, y2, y3, y4, n, rfl, by simpa using hx.1, by simpa using hx.2, by simpa [Value.cells, o0, k0] using hg 0 f0 rfl, by simpa [Value.cells, o1, k1] using hg 1 f1 rfl, by simpa [Value.cells, o2, k2] using hg 2 f2 rfl, by simpa [Value.cells, o3, k3] using hg 3 f3 rfl, by simpa [Value.cells, o4, k4] using hg 4 f4 rfl⟩
end
structure CutV where
  m : ByteArray
  n : Int
  k : Int
  i : ByteArray
  c : ByteArray
/-- v is a split's data, each text as long as an argument may be. -/
def IsCut (v : Value) (x : CutV) : Prop := v = .agg #[.string x.m, .int .i64 x.n, .int .i64 x.k, .string x.i, .string x.c] ∧ x.m.size ≤ 140737488351232 ∧ x.i.size ≤ 140737488351232 ∧ x.c.size ≤ 140737488351232 ∧ (-9223372036854775808 ≤ x.n ∧ x.n ≤ 9223372036854775807) ∧ (-9223372036854775808 ≤ x.k ∧ x.k ≤ 9223372036854775807)
theorem int_range {n : Int} (h : (Lit.int .i64 n).wf = true) : -9223372036854775808 ≤ n ∧ n ≤ 9223372036854775807 := by
  have := h
  simp [Lit.wf, IntKind.min, IntKind.max, IntKind.signed, IntKind.bits] at this
  omega
set_option maxRecDepth 100000 in
theorem cut_open {H : Type} {enc : TypeId × Value → H} {W : World} {base : Nat} {v : Value} {d : DataW H} {p : List MemPlace} {ts : List TypeId} {ds : List (DataW H)} {j : Nat}
    (hv : Value.okWide Tryd.prog W .any base 34 v) (h : DataW.Trod enc Tryd.prog W 0 (fun _ => true) true 34 v d p) (hsz : (DataW.weightsEach Tryd.prog ts ds).all (· ≤ reachBytes) = true) (hts : ts[j]? = some 34) (hds : ds[j]? = some d) :
    ∃ x, IsCut v x := by
  obtain ⟨v0, v1, v2, v3, v4, y0, y1, y2, y3, y4, n, rfl, rfl, rfl, t0, t1, t2, t3, t4⟩ := open_agg5 Tryd.underlying34 (by kernel_rfl) (by kernel_rfl) hv h
  obtain ⟨s0, e0, rfl, _⟩ := DataW.trod_string Tryd.underlying9 t0
  obtain ⟨n1, e1, rfl, w1⟩ := DataW.trod_int Tryd.underlying3 t1
  obtain ⟨n2, e2, rfl, w2⟩ := DataW.trod_int Tryd.underlying3 t2
  obtain ⟨s3, e3, rfl, _⟩ := DataW.trod_string Tryd.underlying9 t3
  obtain ⟨s4, e4, rfl, _⟩ := DataW.trod_string Tryd.underlying9 t4
  simp only [List.cons.injEq, and_true] at e0 e1 e2 e3 e4
  subst e0 e1 e2 e3 e4
  have hw : ∀ s : ByteArray, s.data.toList.length ∈ DataW.weights (H := H) Tryd.prog 34 (.agg [.lit (.string s0.data.toList), .lit (.int .i64 n1), .lit (.int .i64 n2), .lit (.string s3.data.toList), .lit (.string s4.data.toList)]) → s.size ≤ 140737488351232 := fun s hs => by
    have := List.all_eq_true.1 hsz _ (DataW.weights_mem_each hts hds _ hs)
    have h1 : reachBytes = 140737488351232 := by decide
    rw [h1] at this
    simpa using this
  have hW : DataW.weights (H := H) Tryd.prog 34 (.agg [.lit (.string s0.data.toList), .lit (.int .i64 n1), .lit (.int .i64 n2), .lit (.string s3.data.toList), .lit (.string s4.data.toList)]) = [s0.data.toList.length, s3.data.toList.length, s4.data.toList.length] := by
    simp only [DataW.weights, Tryd.underlying34]
    rfl
  exact ⟨⟨s0, n1, n2, s3, s4⟩, rfl, hw _ (by rw [hW]; simp), hw _ (by rw [hW]; simp), hw _ (by rw [hW]; simp), int_range w1, int_range w2⟩
end Go.Proofs.YtffhfmaphjjffaaDoor
