/- Boxes that came in, with their bulk. -/
import Derived.Test.YthalpgandfbkdaaIdlJ
namespace Go.Proofs.Ythalpgandfbkdaa
open Go.RowKit Go.Lib Go.Joins Base Go.ChangeShapes Go.WideShapes Go.Deep
set_option linter.unusedVariables false
set_option linter.unusedSimpArgs false

theorem bulk_pos {H : Type} (x : DataW H) : 1 ≤ Rows.uptoBulk x := by
  unfold Rows.uptoBulk
  split <;> omega
theorem bulk_len {H : Type} : ∀ l : List (DataW H), l.length ≤ Rows.uptoBulkAll l
  | [] => Nat.zero_le _
  | x :: r => by
    have h1 := bulk_pos x
    have h2 := bulk_len r
    simp only [Rows.uptoBulkAll, List.length_cons]
    omega
set_option maxRecDepth 100000 in
theorem isboxes_openU {H : Type} {enc : TypeId × Value → H} {W : World} {base : Nat} {v : Value} {d : DataW H} {p : List MemPlace} {ts : List TypeId} {ds : List (DataW H)} {j : Nat}
    (hv : Value.okWide Try.prog W .any base 37 v) (h : DataW.Trod enc Try.prog W 0 (fun _ => true) true 37 v d p) (hsz : (DataW.weightsEach Try.prog ts ds).all (· ≤ reachBytes) = true) (hts : ts[j]? = some 37) (hds : ds[j]? = some d) :
    ∃ l, IsBoxes W v l ∧ l.length ≤ Rows.uptoBulk d := by
  obtain ⟨l, hl⟩ := isboxes_open hv h hsz hts hds
  refine ⟨l, hl, ?_⟩
  obtain ⟨a0, len0, cap0, rfl⟩ := okWide_slice Try.underlying37 hv
  obtain ⟨fuel, hf⟩ := h
  rcases open_slice_fields Try.underlying37 Try.underlying44 (by kernel_rfl) (by kernel_rfl) hf with ⟨hcs, hx⟩ | ⟨a, len, cap, m, D, Pl, hcs, hb, hl2, hm, hmm, hx, hel⟩
  · simp [Value.cells] at hcs
    obtain ⟨rfl, rfl, rfl⟩ := hcs
    obtain ⟨⟨_, rfl⟩ | ⟨ad, cap, e, _⟩, _⟩ := hl
    · simp
    · injection e with e; cases e
  · simp [Value.cells] at hcs
    obtain ⟨rfl, rfl, rfl⟩ := hcs
    simp only [Prod.mk.injEq] at hx
    obtain ⟨⟨e, _⟩ | ⟨ad, cap, e, _⟩, _⟩ := hl
    · injection e with e; cases e
    · injection e with _ e _
      have h1 := bulk_len ((List.range len0).map D)
      rw [List.length_map, List.length_range] at h1
      rw [hx.1]
      simp only [Rows.uptoBulk]
      omega
end Go.Proofs.Ythalpgandfbkdaa
