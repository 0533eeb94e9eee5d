/- marked of the law: a copy of a list of texts, with three marks behind it. -/
import Derived.Test.YtkagmoaapampgaaDoorBeyond
namespace Go.Proofs.YtkagmoaapampgaaDoor
open Go.RowKit Go.Lib Go.Joins Base
set_option linter.unusedVariables false
set_option linter.unusedSimpArgs false

/-- Texts as cells. -/
def tcells (ps : List ByteArray) : List Value := ps.map Value.string
def marks : List ByteArray := [⟨#[109, 97, 114, 107, 32, 49]⟩, ⟨#[109, 97, 114, 107, 32, 50]⟩, ⟨#[109, 97, 114, 107, 32, 51]⟩]
theorem tcells_len (ps : List ByteArray) : (tcells ps).length = ps.length := by simp [tcells]
theorem tcells_one (ps : List ByteArray) : ∀ v ∈ tcells ps, v.oneCell' = true := by
  intro v hv
  obtain ⟨x, _, rfl⟩ := List.mem_map.1 hv; rfl
theorem Texts.ofOwn {w : World} {base g cap n : Nat} {e : TypeId} {ps : List ByteArray} (h : w.ownsRow base e 1 (.slice (some ⟨g, 0, none⟩) n cap) n (tcells ps)) : Texts w (some ⟨g, 0, none⟩) ps := by
  intro j s hj
  have hl : ps.length = n := by have := h.1; rw [tcells_len] at this; omega
  have hjl : j < ps.length := by
    rcases Nat.lt_or_ge j ps.length with h' | h'
    · exact h'
    · rw [List.getElem?_eq_none h'] at hj; cases hj
  refine ⟨g, 0, rfl, ?_⟩
  rw [Nat.zero_add, h.cellAt j (by omega)]
  simp [tcells, hj]

set_option maxRecDepth 100000 in
set_option maxHeartbeats 1000000 in
theorem marked_any (ps : List ByteArray) (ad : Option Addr) (cap : Nat) (hp63 : ps.length ≤ 4294967296) (w : World) (hp : Texts w ad ps) :
    Calls Tryd.prog 9 #[.slice ad ps.length cap] w fun e w' => ∃ g c, e = .returned (.slice (some ⟨g, 0, none⟩) (ps.length + 3) c) ∧ w'.ownsRow w.heap.size 9 1 (.slice (some ⟨g, 0, none⟩) (ps.length + 3) c) (ps.length + 3) (tcells (ps ++ marks)) ∧ Below w.heap.size w w' := by
  have hi5 : (Tryd.prog.info? 9).map (fun i => (i.zero, i.size, i.bytes)) = some (some (.string ⟨#[]⟩), 1, 16) := by kernel_rfl
  obtain ⟨iI, hiI, hz0, hz1, hz2⟩ := info_parts hi5
  go_enter Tryd.func9, Tryd.ntmps9
  go_wp2_with fail
  go_loopw [3, 4] (fun v3 v4 wr => ∃ i : Nat, i ≤ ps.length ∧ v4 = .int .i64 i ∧ wr.ownsRow w.heap.size 9 1 v3 i (tcells (ps.take i)) ∧ Below w.heap.size w wr) (fun _ v _ => ps.length - (intOf v).toNat)
  case atStart => exact ⟨0, by omega, rfl, World.ownsRow_nil _ _ _ _, Below.refl _ _⟩
  case round =>
    obtain ⟨i, hi, rfl, h0, hF⟩ := hrel
    have hsz := hF.size
    by_cases hl : i < ps.length
    · have l1 : (i : Int) < ps.length := by omega
      obtain ⟨g, o, rfl, hc⟩ := hp.keep (Fr.ofBelow hF) i ps[i] (by simp [hl])
      have ht : ps.take (i + 1) = ps.take i ++ [ps[i]] := by rw [List.take_add_one, List.getElem?_eq_getElem hl]; rfl
      have HT := Lib.hid ht
      clear ht
      generalize ps[i] = d at hc HT
      have A2 := At.alloc_new wr 9 #[Value.string d]
      go_wp2_with (first
        | (at_builtin; refine wpList_append_own _ rfl _ _ _ rfl w.heap.size 9 iI (.string ⟨#[]⟩) 1 16 Tryd.underlying22 hiI hz0 hz1 hz2 rfl (by decide) _ i _ rfl (World.ownsRow.alloc h0 _) ⟨wr.heap.size, 0, none⟩ 1 1 (tcells [d]) rfl rfl (by intro j u hj; rw [addr_add', Nat.zero_add]; exact (A2.cell j).trans hj) (tcells_one _) (by simp [maxLen]; omega) (by omega) (by simp; omega) ?_; intro v2 w2 o2 gr2 _)
        | fail)
      refine ⟨⟨i + 1, by omega, by simp, ?_, ?_⟩, by simp only [intOf]; omega⟩
      · rw [HT.out]
        simpa [tcells] using o2
      · refine (hF.alloc (by omega) _).grown gr2 (by simp; omega) ?_
        intro x hx
        exact (h0.lt x hx).1
    · obtain rfl : i = ps.length := by omega
      rw [List.take_of_length_le (Nat.le_refl _)] at h0
      have A2 := At.alloc_new wr 9 (tcells marks).toArray
      go_wp2_with (first
        | (at_builtin; refine wpList_append_own _ rfl _ _ _ rfl w.heap.size 9 iI (.string ⟨#[]⟩) 1 16 Tryd.underlying22 hiI hz0 hz1 hz2 rfl (by decide) _ ps.length _ rfl (World.ownsRow.alloc h0 _) ⟨wr.heap.size, 0, none⟩ 3 3 (tcells marks) rfl rfl (by intro j u hj; rw [addr_add', Nat.zero_add]; exact (A2.cell j).trans hj) (tcells_one _) (by simp [maxLen]; omega) (by omega) (by simp; omega) ?_; intro v2 w2 o2 gr2 _)
        | fail)
      have B2 : Below w.heap.size w w2 := (hF.alloc (by omega) _).grown gr2 (by simp; omega) (fun x hx => (h0.lt x hx).1)
      rcases ownsRow_forms o2 with ⟨rfl, h1⟩ | ⟨g, c, rfl⟩
      · omega
      go_ret
      refine ⟨g, c, rfl, ?_, B2⟩
      simpa [tcells] using o2
end Go.Proofs.YtkagmoaapampgaaDoor
