/- A list of texts that came in as an argument. -/
import Derived.Test.YtbpaknnnkmjgjaaDoorShaSums
import Derived.Test.YtbpaknnnkmjgjaaDoorRows
import Derived.Deep.Strs
import Derived.SizedLaws
import Derived.ProofKit
import Derived.OpenShut
namespace Go.Proofs.YtbpaknnnkmjgjaaDoor
open Go.RowKit Go.Lib Go.Joins Base Go.ChangeShapes Go.WideShapes Go.Deep
set_option linter.unusedVariables false
set_option linter.unusedSimpArgs false

theorem weightsAll_strs {H : Type} (P : Program) (e : TypeId) (Sx : Nat → ByteArray) : ∀ (l : List Nat) (i : Nat), i ∈ l → (Sx i).data.toList.length ∈ DataW.weightsAll (H := H) P e (l.map fun i => .lit (.string (Sx i).data.toList))
  | j :: r, i, h => by
    simp only [List.map_cons, DataW.weightsAll, DataW.weights, List.mem_append, List.mem_singleton]
    rcases List.mem_cons.1 h with rfl | h
    · exact .inl rfl
    · exact .inr (weightsAll_strs P e Sx r i h)
/-- v is a slice of these texts. -/
def IsT (w : World) (v : Value) (ps : List ByteArray) : Prop := ∃ ad cap, v = .slice ad ps.length cap ∧ ps.length ≤ cap ∧ Texts w ad ps ∧ ps.length * 16 ≤ 140737488351232 ∧ ((∃ g o, ad = some ⟨g, o, none⟩) ∨ (ad = none ∧ ps = [] ∧ cap = 0) ∨ ps = []) ∧ ∀ p ∈ ps, p.size ≤ 140737488351232
set_option maxRecDepth 100000 in
theorem texts_open {H : Type} {enc : TypeId × Value → H} {W : World} {base : Nat} {v : Value} {d : DataW H} {p : List MemPlace} {ts : List TypeId} {ds : List (DataW H)} {j : Nat}
    (hv : Value.okWide Tryd.prog W .any base 22 v) (h : DataW.Trod enc Tryd.prog W 0 (fun _ => true) true 22 v d p) (hsz : (DataW.weightsEach Tryd.prog ts ds).all (· ≤ reachBytes) = true) (hts : ts[j]? = some 22) (hds : ds[j]? = some d) :
    ∃ ps, IsT W v ps := by
  obtain ⟨a0, len0, cap0, rfl⟩ := okWide_slice Tryd.underlying22 hv
  obtain ⟨fuel, hf⟩ := h
  rcases open_strs Tryd.underlying22 Tryd.underlying9 (by kernel_rfl) hf with ⟨hcs, hx⟩ | ⟨a, len, cap, m, Sx, hcs, hb, hl, hm, hmm, hx, hel⟩
  · simp [Value.cells] at hcs
    obtain ⟨rfl, rfl, rfl⟩ := hcs
    exact ⟨[], none, 0, rfl, Nat.le_refl _, fun j s hj => by simp at hj, by simp, .inr (.inl ⟨rfl, rfl, rfl⟩), by simp⟩
  · simp [Value.cells] at hcs
    obtain ⟨rfl, rfl, rfl⟩ := hcs
    simp only [Prod.mk.injEq] at hx
    have hcap := sized_slice hsz hts (by rw [hds, hx.1]) Tryd.underlying22
    simp only [List.length_map, List.length_range] at hcap
    have hmc : m = cap0 := by simpa using hmm
    subst hmc
    refine ⟨(List.range len0).map Sx, some a, m, by simp, by simpa using hl, ?_, ?_, ?_, ?_⟩
    · intro j s hj
      obtain ⟨hi, hs⟩ : j < len0 ∧ s = Sx j := by
        rw [List.getElem?_map] at hj
        rcases Nat.lt_or_ge j len0 with h' | h'
        · rw [List.getElem?_range h'] at hj
          injection hj with hj
          exact ⟨h', hj.symm⟩
        · rw [List.getElem?_eq_none (by simpa using h')] at hj; cases hj
      have hc := (hel j (by omega)).1
      cases a with
      | mk b o sp =>
        have hsp : sp = none := by
          cases sp with
          | none => rfl
          | some x =>
            have hc0 := (hel 0 (by omega)).1
            simp [Addr.add, World.cell?] at hc0
            split at hc0 <;> simp at hc0
        subst hsp
        refine ⟨b, o, rfl, ?_⟩
        have e : (⟨b, o, none⟩ : Addr).add j = ⟨b, o + j, none⟩ := addr_add' b o j
        rw [e] at hc
        rw [hc, hs]
    · have h1 : reachBytes = 140737488351232 := by decide
      have h2 : Tryd.prog.bytesOf 9 = 16 := by kernel_rfl
      rw [h1, h2] at hcap
      simp; omega
    · by_cases h0 : len0 = 0
      · exact .inr (.inr (by rw [h0]; rfl))
      · refine .inl ?_
        cases a with
        | mk b o sp =>
          have hsp : sp = none := by
            cases sp with
            | none => rfl
            | some x =>
              have hc0 := (hel 0 (by omega)).1
              simp [Addr.add, World.cell?] at hc0
              split at hc0 <;> simp at hc0
          subst hsp
          exact ⟨b, o, rfl⟩
    · intro p hp
      obtain ⟨i, hi, rfl⟩ := List.mem_map.1 hp
      have hw : (Sx i).data.toList.length ∈ d.weights Tryd.prog 22 := by
        rw [hx.1]
        simp only [DataW.weights, Tryd.underlying22, List.mem_cons, List.mem_append]
        exact .inr (.inl (weightsAll_strs _ _ Sx _ i hi))
      have := List.all_eq_true.1 hsz _ (DataW.weights_mem_each hts hds _ hw)
      have h1 : reachBytes = 140737488351232 := by decide
      rw [h1] at this
      simpa using this
end Go.Proofs.YtbpaknnnkmjgjaaDoor
