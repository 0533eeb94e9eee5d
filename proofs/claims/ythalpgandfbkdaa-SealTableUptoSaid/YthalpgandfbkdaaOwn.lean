/- Rows of the call's own that grow: kept over a step that leaves their block alone, and read as a string. No program here. -/
import Derived.Test.YthalpgandfbkdaaBase
import Derived.OwnWalk
import Derived.Laws.OwnMore
import Derived.Lib.SmallJoins
import Derived.Laws.BytesArg
namespace Go.Proofs.Ythalpgandfbkdaa.Base
open Go.RowKit Go.Lib Go.Joins
set_option linter.unusedVariables false
set_option linter.unusedSimpArgs false

theorem Fr.ofGrown {w w' : World} {row : Option Nat} {S : List Nat} (h : w.grownBy w' row) (hS : ∀ k, row = some k → k ∈ S) : Fr S w w' :=
  ⟨h.os, h.tape, h.output, h.size, fun k hk hkS => h.block k hk (fun e => hkS (hS k e.symm))⟩

theorem own_fr {w w' : World} {base : Nat} {e : TypeId} {size : Nat} {v : Value} {n : Nat} {xs : List Value} {S : List Nat} (h : w.ownsRow base e size v n xs) (f : Fr S w w') (hS : ∀ g, v.ownBlock = some g → g ∉ S) : w'.ownsRow base e size v n xs := by
  obtain ⟨hl, h | ⟨g, cap, cur, hv, hb, hg, r⟩⟩ := h
  · exact ⟨hl, .inl h⟩
  · refine ⟨hl, .inr ⟨g, cap, cur, hv, hb, ?_, r⟩⟩
    have hlt : g < w.heap.size := by
      rcases Nat.lt_or_ge g w.heap.size with h' | h'
      · exact h'
      · simp [Array.getElem?_eq_none h'] at hg
    rw [f.block g hlt (hS g (by rw [hv]; rfl)), hg]

/-- string(b), b a row of the call's own. -/
theorem run_strOwn {P : Program} {t e d : TypeId} (ht : P.underlying t = some (.slice e)) (he : P.underlying e = some (.int .u8)) (hd : P.underlying d = some .string) {w : World} {base n : Nat} {e' : TypeId} {v : Value} {xs : List UInt8}
    (h : w.ownsRow base e' 1 v n (byteCells xs)) : (convert t d v).run P w = .ok (.string ⟨xs.toArray⟩) w := by
  have hl : xs.length = n := by have := h.1; rw [byteCells_length] at this; omega
  rcases ownsRow_forms h with ⟨rfl, rfl⟩ | ⟨g, cap, rfl⟩
  · obtain rfl := List.eq_nil_of_length_eq_zero hl
    exact run_convert_bytes_nil w t e ht he 0 0 d hd
  · have := run_convert_bytes_arg (P := P) w t e ht he g 0 n cap (xs.map fun x => (x.toNat : Int)) (by simpa using hl) (fun i hi => by
      rw [Nat.zero_add, h.cellAt i (by omega)]
      simp [byteCells, show i < xs.length by omega]) d hd
    rw [this]
    congr 2
    apply ByteArray.ext
    apply Array.toList_inj.1
    rw [strOfNums_data, List.map_map]
    conv => rhs; rw [← List.map_id xs]
    apply List.map_congr_left
    intro x _
    simp
theorem own_cap {w : World} {base size : Nat} {e : TypeId} {g n cap : Nat} {xs : List Value} (h : w.ownsRow base e size (.slice (some ⟨g, 0, none⟩) n cap) n xs) : n ≤ cap ∧ cap ≤ maxLen := by
  rcases h.2 with ⟨h', _⟩ | ⟨g', cap', cur, h', _, _, h1, h2, _⟩
  · simp at h'
  · simp only [Value.slice.injEq, Option.some.injEq, Addr.mk.injEq, and_true, true_and] at h'
    obtain ⟨rfl, rfl⟩ := h'
    exact ⟨h1, h2⟩
/-- A piece of such a row, as its own cells say. -/
theorem own_piece {w : World} {base size : Nat} {e : TypeId} {g n cap : Nat} {xs : List Value} (h : w.ownsRow base e size (.slice (some ⟨g, 0, none⟩) n cap) n xs) (o m : Nat) (hm : o + m ≤ n * size) :
    ∀ j u, ((xs.drop o).take m)[j]? = some u → w.cell? ((⟨g, o, none⟩ : Addr).add j) = some u := by
  intro j u hj
  have hjm : j < m := by
    rcases Nat.lt_or_ge j m with h' | h'
    · exact h'
    · rw [List.getElem?_take, if_neg (by omega)] at hj; cases hj
  rw [List.getElem?_take, if_pos hjm, List.getElem?_drop] at hj
  have ea : (⟨g, o, none⟩ : Addr).add j = ⟨g, o + j, none⟩ := by unfold Addr.add; split <;> simp_all
  rw [ea, h.cellAt _ (by omega), hj]
end Go.Proofs.Ythalpgandfbkdaa.Base
