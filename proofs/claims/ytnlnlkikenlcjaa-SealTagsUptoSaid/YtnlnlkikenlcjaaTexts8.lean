/- A list of texts that came in as an argument. -/
import Derived.Test.YtnlnlkikenlcjaaTagE
import Derived.Test.YtnlnlkikenlcjaaRows
import Derived.Deep.Strs
import Derived.SizedLaws
import Derived.ProofKit
import Derived.OpenShut
namespace Go.Proofs.Ytnlnlkikenlcjaa
open Go.RowKit Go.Lib Go.Joins Base Go.ChangeShapes Go.WideShapes Go.Deep
set_option linter.unusedVariables false
set_option linter.unusedSimpArgs false

/-- Texts in places of memory: a list handed over. -/
def Texts (w : World) (ad : Option Addr) (ps : List ByteArray) : Prop := ∀ j s, ps[j]? = some s → ∃ g o, ad = some ⟨g, o, none⟩ ∧ w.cell? ⟨g, o + j, none⟩ = some (.string s)
theorem Texts.keep {w w' : World} {ad : Option Addr} {ps : List ByteArray} (h : Texts w ad ps) (f : Fr [] w w') : Texts w' ad ps := by
  intro j s hj
  obtain ⟨g, o, e, hc⟩ := h j s hj
  refine ⟨g, o, e, ?_⟩
  rw [← hc]
  have hb : g < w.heap.size := by
    rcases Nat.lt_or_ge g w.heap.size with h' | h'
    · exact h'
    · simp only [World.cell?, Array.getElem?_eq_none h'] at hc; cases hc
  simp only [World.cell?]
  rw [f.block _ hb (by simp)]
/-- The texts' bytes, the texts themselves counted as well. -/
def bulkL (ps : List ByteArray) : Nat := (ps.map fun p => p.size + 1).sum
/-- v is a slice of these texts. -/
def IsT (w : World) (v : Value) (ps : List ByteArray) : Prop := ∃ ad cap, v = .slice ad ps.length cap ∧ ps.length ≤ cap ∧ Texts w ad ps ∧ ps.length * 16 ≤ 140737488351232
set_option maxRecDepth 100000 in
theorem texts_open {H : Type} {enc : TypeId × Value → H} {W : World} {base : Nat} {v : Value} {d : DataW H} {p : List MemPlace} {ts : List TypeId} {ds : List (DataW H)} {j : Nat}
    (hv : Value.okWide Try.prog W .any base 22 v) (h : DataW.Trod enc Try.prog W 0 (fun _ => true) true 22 v d p) (hsz : (DataW.weightsEach Try.prog ts ds).all (· ≤ reachBytes) = true) (hts : ts[j]? = some 22) (hds : ds[j]? = some d) :
    ∃ ps, IsT W v ps ∧ (Rows.uptoSmall H [d] = true → bulkL ps ≤ 1048576) := by
  obtain ⟨a0, len0, cap0, rfl⟩ := okWide_slice Try.underlying22 hv
  obtain ⟨fuel, hf⟩ := h
  rcases open_strs Try.underlying22 Try.underlying9 (by kernel_rfl) hf with ⟨hcs, hx⟩ | ⟨a, len, cap, m, Sx, hcs, hb, hl, hm, hmm, hx, hel⟩
  · simp [Value.cells] at hcs
    obtain ⟨rfl, rfl, rfl⟩ := hcs
    exact ⟨[], ⟨none, 0, rfl, Nat.le_refl _, fun j s hj => by simp at hj, by simp⟩, fun _ => by simp [bulkL]⟩
  · simp [Value.cells] at hcs
    obtain ⟨rfl, rfl, rfl⟩ := hcs
    simp only [Prod.mk.injEq] at hx
    have hcap := sized_slice hsz hts (by rw [hds, hx.1]) Try.underlying22
    simp only [List.length_map, List.length_range] at hcap
    have hmc : m = cap0 := by simpa using hmm
    subst hmc
    refine ⟨(List.range len0).map Sx, ⟨some a, m, by simp, by simpa using hl, ?_, ?_⟩, ?_⟩
    · intro j s hj
      obtain ⟨hi, hs⟩ : j < len0 ∧ s = Sx j := by
        rw [List.getElem?_map] at hj
        rcases Nat.lt_or_ge j len0 with h' | h'
        · rw [List.getElem?_range h'] at hj
          injection hj with hj
          exact ⟨h', hj.symm⟩
        · rw [List.getElem?_eq_none (by simpa using h')] at hj; cases hj
      have hc := (hel j (by omega)).1
      cases a with
      | mk b o sp =>
        have hsp : sp = none := by
          cases sp with
          | none => rfl
          | some x =>
            have hc0 := (hel 0 (by omega)).1
            simp [Addr.add, World.cell?] at hc0
            split at hc0 <;> simp at hc0
        subst hsp
        refine ⟨b, o, rfl, ?_⟩
        have e : (⟨b, o, none⟩ : Addr).add j = ⟨b, o + j, none⟩ := addr_add' b o j
        rw [e] at hc
        rw [hc, hs]
    · have h1 : reachBytes = 140737488351232 := by decide
      have h2 : Try.prog.bytesOf 9 = 16 := by kernel_rfl
      rw [h1, h2] at hcap
      simp; omega
    · intro hk
      have h := of_decide_eq_true hk
      rw [hx.1] at h
      have key : ∀ (l : List Nat), bulkL (l.map Sx) = Rows.uptoBulkAll (H := H) (l.map fun i => .lit (.string (Sx i).data.toList)) := by
        intro l
        induction l with
        | nil => rfl
        | cons i r ih =>
          have e : bulkL ((i :: r).map Sx) = ((Sx i).size + 1) + bulkL (r.map Sx) := by simp [bulkL]
          rw [e, ih]
          simp [Rows.uptoBulkAll, Rows.uptoBulk]
      rw [key]
      simp only [Rows.uptoBulkAll, Rows.uptoBulk] at h
      omega
theorem bulk_len : ∀ (ps : List ByteArray), ps.length ≤ bulkL ps
  | [] => Nat.zero_le _
  | p :: r => by
    have := bulk_len r
    have e : bulkL (p :: r) = (p.size + 1) + bulkL r := by simp [bulkL]
    rw [e, List.length_cons]; omega
theorem bulk_mem : ∀ (ps : List ByteArray) (s : ByteArray), s ∈ ps → s.size ≤ bulkL ps
  | p :: r, s, h => by
    have e : bulkL (p :: r) = (p.size + 1) + bulkL r := by simp [bulkL]
    rw [e]
    rcases List.mem_cons.1 h with rfl | h
    · omega
    · have := bulk_mem r s h; omega
end Go.Proofs.Ytnlnlkikenlcjaa
