/- A list of whole numbers that came in as an argument; Join of a list of one's own. -/
import Derived.Test.YtffhfmaphjjffaaDoorJnPick
import Derived.Test.YtffhfmaphjjffaaDoorJnJoin
import Derived.Test.YtffhfmaphjjffaaDoorShrCut
import Derived.Deep.Slices
namespace Go.Proofs.YtffhfmaphjjffaaDoor
open Go.RowKit Go.Lib Go.Joins Base Go.ChangeShapes Go.WideShapes Go.Deep
set_option linter.unusedVariables false
set_option linter.unusedSimpArgs false

def IsInts (w : World) (v : Value) (ns : List Int) : Prop := ∃ ad cap, v = .slice ad ns.length cap ∧ Ints w ad ns ∧ ns.length ≤ 140737488351232
set_option maxRecDepth 100000 in
theorem ints_open {H : Type} {enc : TypeId × Value → H} {W : World} {base : Nat} {v : Value} {d : DataW H} {p : List MemPlace} {ts : List TypeId} {ds : List (DataW H)} {j : Nat}
    (hv : Value.okWide Tryd.prog W .any base 51 v) (h : DataW.Trod enc Tryd.prog W 0 (fun _ => true) true 51 v d p) (hsz : (DataW.weightsEach Tryd.prog ts ds).all (· ≤ reachBytes) = true) (hts : ts[j]? = some 51) (hds : ds[j]? = some d) :
    ∃ ns, IsInts W v ns := by
  have h1 : reachBytes = 140737488351232 := by decide
  obtain ⟨a0, len0, cap0, rfl⟩ := okWide_slice Tryd.underlying51 hv
  obtain ⟨fuel, hf⟩ := h
  rcases open_slice1 Tryd.underlying51 (by kernel_rfl) hf with ⟨hcs, hx⟩ | ⟨a, len, cap, m, n, V, D, Pl, hcs, hb, hl, hm, hmm, hx, hel⟩
  · simp [Value.cells] at hcs
    obtain ⟨rfl, rfl, rfl⟩ := hcs
    exact ⟨[], none, 0, rfl, fun j s hj => by simp at hj, by simp⟩
  · simp [Value.cells] at hcs
    obtain ⟨rfl, rfl, rfl⟩ := hcs
    simp only [Prod.mk.injEq] at hx
    have hcap := sized_slice hsz hts (by rw [hds, hx.1]) Tryd.underlying51
    simp only [List.length_map, List.length_range] at hcap
    have hmc : m = cap0 := by simpa using hmm
    subst hmc
    have h2 : Tryd.prog.bytesOf 3 = 8 := by kernel_rfl
    rw [h1, h2] at hcap
    have key : ∀ i, i < len0 → ∃ x : Int, W.cell? (a.add i) = some (.int .i64 x) ∧ (-9223372036854775808 ≤ x ∧ x ≤ 9223372036854775807) := fun i hi => by
      obtain ⟨hc, ht⟩ := hel i (by omega)
      obtain ⟨x, e, hD, hw⟩ := DataW.trod_int Tryd.underlying3 ht
      simp only [List.cons.injEq, and_true] at e
      exact ⟨x, by rw [hc, e], int_range hw⟩
    have hsp : 0 < len0 → a.spot = none := fun h0 => by
      obtain ⟨o, c0, _⟩ := key 0 h0
      cases a with
      | mk b o sp =>
        cases sp with
        | none => rfl
        | some x =>
          simp [Addr.add, World.cell?] at c0
          split at c0 <;> simp at c0
    obtain ⟨f, hfk⟩ : ∃ f : Nat → Int, ∀ i, i < len0 → W.cell? (a.add i) = some (.int .i64 (f i)) ∧ (-9223372036854775808 ≤ f i ∧ f i ≤ 9223372036854775807) := by
      refine ⟨fun i => if hi : i < len0 then Classical.choose (key i hi) else 0, fun i hi => ?_⟩
      simp only [dif_pos hi]
      exact Classical.choose_spec (key i hi)
    refine ⟨(List.range len0).map f, some a, m, by simp, ?_, by simp; omega⟩
    intro j o hj
    obtain ⟨hi, ho⟩ : j < len0 ∧ o = f j := by
      rw [List.getElem?_map] at hj
      rcases Nat.lt_or_ge j len0 with h' | h'
      · rw [List.getElem?_range h'] at hj
        injection hj with hj
        exact ⟨h', hj.symm⟩
      · rw [List.getElem?_eq_none (by simpa using h')] at hj; cases hj
    subst ho
    obtain ⟨c0, hr⟩ := hfk j hi
    have hs := hsp (by omega)
    cases a with
    | mk b o sp =>
      obtain rfl : sp = none := hs
      refine ⟨b, o, rfl, ?_, hr⟩
      rw [addr_add'] at c0
      exact c0
/-- Join of a list of one's own. -/
theorem join_own (ps : List ByteArray) {b n : Nat} {e : TypeId} {v : Value} (hn : ps.length ≤ 4194304) (R : List UInt8 × Int) (hJ : joinV ps = R) (s : ByteArray) (hs : s.data.toList = R.1) (E : Int) (hE : E = R.2) (w : World) (hI : First w) (hR : Roots w) (h : w.ownsRow b e 1 v n (tcells ps)) :
    Calls Tryd.prog 22 #[v] w fun e w' => e = .returned (.tuple #[.string s, .int .i64 E]) ∧ Fr [] w w' := by
  obtain ⟨ad, c, rfl, rfl⟩ := own_val h
  have := join_any ps ad c hn w hI hR (Texts.ofOwn h)
  rw [hJ, ← hs, ← hE] at this
  exact this
end Go.Proofs.YtffhfmaphjjffaaDoor
