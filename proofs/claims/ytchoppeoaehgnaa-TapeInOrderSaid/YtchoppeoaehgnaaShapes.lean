/- What a slice that came in reads as: lists of numbers, of texts, of small structs. -/
import Derived.Test.YtchoppeoaehgnaaBase
import Derived.ChangeSlices
import Derived.SliceStrings
import Derived.SizedLaws
import Derived.Deep.Slices
import Derived.ProofKit
import Derived.OpenShut
namespace Go.Proofs.Ytchoppeoaehgnaa.Base
open Go.RowKit Go.Lib Go.ChangeShapes Go.WideShapes Go.Deep

/-- v is a slice of n elements of 'size' cells; cell j of element i holds F i j. -/
def IsRows (w : World) (v : Value) (n size : Nat) (F : Nat → Nat → Value) : Prop :=
  ∃ a cap, v = .slice a n cap ∧ n ≤ cap ∧ cap ≤ maxLen ∧ (a = none → n = 0 ∧ cap = 0) ∧ ∀ i, i < n → ∃ b o, a = some ⟨b, o, none⟩ ∧ ∀ j, j < size → w.cell? ⟨b, o + i * size + j, none⟩ = some (F i j)

theorem IsRows.keep {S : List Nat} {w w' : World} {v : Value} {n size : Nat} {F : Nat → Nat → Value} (h : IsRows w v n size F) (hf : Fr S w w') (hS : ∀ x, x ∈ S → w.heap.size ≤ x) : IsRows w' v n size F := by
  obtain ⟨a, cap, hv, h1, h2, h3, h4⟩ := h
  refine ⟨a, cap, hv, h1, h2, h3, fun i hi => ?_⟩
  obtain ⟨b, o, ha, hc⟩ := h4 i hi
  refine ⟨b, o, ha, fun j hj => ?_⟩
  have := hc j hj
  have hb : b < w.heap.size := by
    rcases Nat.lt_or_ge b w.heap.size with h' | h'
    · exact h'
    · simp [World.cell?, Array.getElem?_eq_none h'] at this
  rw [← this]
  simp only [World.cell?]
  rw [hf.block b hb (fun hx => by have := hS b hx; omega)]

theorem addr_add (b o k : Nat) : (⟨b, o, none⟩ : Addr).add k = ⟨b, o + k, none⟩ := by unfold Addr.add; split <;> simp_all

section
variable {H : Type} {enc : TypeId × Value → H} {P : Program} {W : World} {base : Nat} {v : Value} {d : DataW H} {p : List MemPlace} {ts : List TypeId} {ds : List (DataW H)} {j : Nat} {t e : TypeId}

/-- A slice opened: its elements' cells, and what each reads as. -/
theorem rows_open (ht : P.underlying t = some (.slice e)) {size : Nat} (hc : P.cellsOf e = size) (hz : 0 < size)
    (hv : Value.okWide P W .any base t v) (h : DataW.Trod enc P W 0 (fun _ => true) true t v d p) (hsz : (DataW.weightsEach P ts ds).all (· ≤ reachBytes) = true) (hts : ts[j]? = some t) (hds : ds[j]? = some d) :
    ∃ (n : Nat) (F : Nat → Nat → Value) (m : Nat) (D : Nat → DataW H × List MemPlace), IsRows W v n size F ∧ n * P.bytesOf e ≤ reachBytes ∧ ∀ i, i < n → DataW.trod enc P W 0 (fun _ => true) true m e ((List.range size).map (F i)) = some (D i) := by
  obtain ⟨a0, len0, cap0, rfl⟩ := okWide_slice ht hv
  obtain ⟨fuel, hf⟩ := h
  rcases open_slice ht hf with ⟨hcs, hx⟩ | ⟨a, len, cap, m, n, D, Pl, hcs, hb, hl, hm, hmm, hx, hel⟩
  · simp [Value.cells] at hcs
    obtain ⟨rfl, rfl, rfl⟩ := hcs
    exact ⟨0, fun _ _ => undef, 0, fun _ => (.nil, []), ⟨none, 0, rfl, Nat.le_refl _, by simp [maxLen], fun _ => ⟨rfl, rfl⟩, fun i hi => absurd hi (by omega)⟩, by simp, fun i hi => absurd hi (by omega)⟩
  · simp [Value.cells] at hcs
    obtain ⟨rfl, rfl, rfl⟩ := hcs
    simp only [Prod.mk.injEq] at hx
    have hcap := sized_slice hsz hts (by rw [hds, hx.1]) ht
    simp only [List.length_map, List.length_range] at hcap
    have hmc : m = cap0 := by simpa using hmm
    subst hmc
    have hn : len0 * P.bytesOf e ≤ reachBytes := Nat.le_trans (Nat.mul_le_mul_right _ (by omega)) hcap
    rw [hc] at hel
    have key : ∀ i, i < len0 → ∃ cs' : List Value, cs'.length = size ∧ (∀ j, j < size → W.cell? (a.add (i * size + j)) = some (cs'.getD j undef)) ∧ DataW.trod enc P W 0 (fun _ => true) true n e cs' = some (D i, Pl i) := by
      intro i hi
      obtain ⟨cs', h1, h2⟩ := hel i (by omega)
      obtain ⟨_, hlen, hcell⟩ := World.cells?_some h1
      refine ⟨cs', hlen, fun j hj => ?_, h2⟩
      have := hcell j hj
      rw [add_add] at this
      rw [this, List.getD_eq_getElem?_getD, List.getElem?_eq_getElem (by omega)]
      simp
    obtain ⟨q, hq⟩ := choose_lt key
    refine ⟨len0, fun i j => (q i).getD j undef, n, fun i => (D i, Pl i), ⟨some a, _, rfl, hl, hm, by simp, fun i hi => ?_⟩, hn, fun i hi => ?_⟩
    · obtain ⟨h1, h2, h3⟩ := hq i hi
      have hs0 := h2 0 hz
      cases a with
      | mk b o sp =>
        have hsp : sp = none := by
          cases sp with
          | none => rfl
          | some s =>
            have hlast := (hq 0 (by omega)).2.1 0 hz
            simp [Addr.add, World.cell?] at hlast
            split at hlast <;> simp at hlast
        subst hsp
        refine ⟨b, o, rfl, fun j hj => ?_⟩
        have := h2 j hj
        rw [addr_add, ← Nat.add_assoc] at this
        exact this
    · obtain ⟨h1, h2, h3⟩ := hq i hi
      have : (List.range size).map (fun j => (q i).getD j undef) = q i := by
        apply List.ext_getElem
        · simp [h1]
        · intro k hk1 hk2; simp [hk2]
      rw [this]; exact h3
end
end Go.Proofs.Ytchoppeoaehgnaa.Base
namespace Go.Proofs.Ytchoppeoaehgnaa.Base
open Go.RowKit Go.Lib Go.ChangeShapes Go.WideShapes Go.Deep
theorem reach_eq : reachBytes = 140737488351232 := by decide
/-- v is a slice of these ints. -/
def IsInts (w : World) (v : Value) (zs : List Int) : Prop := IsRows w v zs.length 1 (fun i _ => .int .i64 (zs.getD i 0)) ∧ zs.length * 8 ≤ 140737488351232 ∧ ∀ z ∈ zs, (Lit.int .i64 z).wf = true
/-- v is a slice of these texts. -/
def IsTexts (w : World) (v : Value) (ss : List ByteArray) : Prop := IsRows w v ss.length 1 (fun i _ => .string (ss.getD i ByteArray.empty)) ∧ ss.length * 16 ≤ 140737488351232 ∧ ∀ s ∈ ss, s.size ≤ maxLen
section
variable {H : Type} {enc : TypeId × Value → H} {P : Program} {W : World} {base : Nat} {v : Value} {d : DataW H} {p : List MemPlace} {ts : List TypeId} {ds : List (DataW H)} {j : Nat} {t e : TypeId}
theorem ints_open (ht : P.underlying t = some (.slice e)) (he : P.underlying e = some (.int .i64)) (hc : P.cellsOf e = 1) (hb : P.bytesOf e = 8)
    (hv : Value.okWide P W .any base t v) (h : DataW.Trod enc P W 0 (fun _ => true) true t v d p) (hsz : (DataW.weightsEach P ts ds).all (· ≤ reachBytes) = true) (hts : ts[j]? = some t) (hds : ds[j]? = some d) :
    ∃ zs : List Int, IsInts W v zs := by
  obtain ⟨n, F, m, D, h1, h2, h3⟩ := rows_open ht hc (by omega) hv h hsz hts hds
  have key : ∀ i, i < n → ∃ z : Int, F i 0 = .int .i64 z ∧ (Lit.int .i64 z).wf = true := by
    intro i hi
    obtain ⟨z, hz, _, hw⟩ := DataW.trod_int he (h3 i hi)
    exact ⟨z, by simpa using hz, hw⟩
  obtain ⟨q, hq⟩ := choose_lt key
  refine ⟨(List.range n).map q, ?_, by rw [hb, reach_eq] at h2; simp only [List.length_map, List.length_range]; exact h2, ?_⟩
  · obtain ⟨a, cap, hv, g1, g2, g3, g4⟩ := h1
    refine ⟨a, cap, by simpa using hv, by simpa using g1, g2, by simpa using g3, fun i hi => ?_⟩
    have hi' : i < n := by simpa using hi
    obtain ⟨b, o, ha, hcell⟩ := g4 i hi'
    refine ⟨b, o, ha, fun j hj => ?_⟩
    obtain rfl : j = 0 := by omega
    rw [hcell 0 hj, (hq i hi').1]
    simp [hi']
  · intro z hz
    obtain ⟨i, hi, rfl⟩ := List.mem_map.1 hz
    exact (hq i (by simpa using hi)).2
end
end Go.Proofs.Ytchoppeoaehgnaa.Base
