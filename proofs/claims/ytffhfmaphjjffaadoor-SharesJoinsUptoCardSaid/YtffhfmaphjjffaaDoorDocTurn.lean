/- The law's list, written over: each second text a byte longer. -/
import Derived.Test.YtffhfmaphjjffaaDoorJnJoin
import Derived.Test.YtffhfmaphjjffaaDoorJnList
import Derived.Test.YtffhfmaphjjffaaDoorUntil
namespace Go.Proofs.YtffhfmaphjjffaaDoor
open Go.RowKit Go.Lib Go.Joins Base
set_option linter.unusedVariables false
set_option linter.unusedSimpArgs false

/-- The first i of the texts turned. -/
def turnT (ps : List ByteArray) (i : Nat) : List ByteArray := ps.mapIdx fun j s => if j < i ∧ j % 2 = 0 then s ++ ⟨#[120]⟩ else s
theorem turnT_len (ps : List ByteArray) (i : Nat) : (turnT ps i).length = ps.length := by simp [turnT]
theorem turnT_zero (ps : List ByteArray) : turnT ps 0 = ps := by
  apply List.ext_getElem?
  intro j
  simp [turnT, List.getElem?_mapIdx]
theorem turnT_cur (ps : List ByteArray) (i : Nat) : (turnT ps i)[i]? = ps[i]? := by
  simp [turnT, List.getElem?_mapIdx]
theorem turnT_next (ps : List ByteArray) (i : Nat) (s : ByteArray) (h : ps[i]? = some s) (he : i % 2 = 0) : (turnT ps i).set i (s ++ ⟨#[120]⟩) = turnT ps (i + 2) := by
  have hl := (List.getElem?_eq_some_iff.1 h).1
  apply List.ext_getElem?
  intro j
  by_cases hj : i = j
  · subst hj
    rw [List.getElem?_set_self (by rw [turnT_len]; exact hl), turnT, List.getElem?_mapIdx, h]
    simp [he]
  · rw [List.getElem?_set_ne hj, turnT, turnT, List.getElem?_mapIdx, List.getElem?_mapIdx]
    cases ps[j]? with
    | none => rfl
    | some t =>
      simp only [Option.map_some, Option.some.injEq]
      by_cases h1 : j < i
      · by_cases h2 : j % 2 = 0
        · rw [if_pos ⟨h1, h2⟩, if_pos ⟨by omega, h2⟩]
        · rw [if_neg (fun h => h2 h.2), if_neg (fun h => h2 h.2)]
      · by_cases h2 : j % 2 = 0
        · rw [if_neg (fun h => h1 h.1), if_neg (fun h => by omega)]
        · rw [if_neg (fun h => h2 h.2), if_neg (fun h => h2 h.2)]
theorem tset (ps : List ByteArray) (R : List Value) (a : Nat) (t : ByteArray) (h : a < ps.length) : (tcells ps ++ R).set a (.string t) = tcells (ps.set a t) ++ R := by
  rw [List.set_append_left _ _ (by rw [tcells_len]; exact h), tcells, tcells, List.map_set]
theorem Texts.ofAtT {w : World} {g : Nat} {ps : List ByteArray} {R : List Value} (h : At w g 9 (tcells ps ++ R)) : Texts w (some ⟨g, 0, none⟩) ps := by
  intro j s hj
  refine ⟨g, 0, rfl, ?_⟩
  rw [Nat.zero_add, h.cell, List.getElem?_append_left (by rw [tcells_len]; exact (List.getElem?_eq_some_iff.1 hj).1)]
  simp [tcells, hj]
theorem own_atT {w : World} {b g n c : Nat} {e : TypeId} {xs : List Value} (h : w.ownsRow b e 1 (.slice (some ⟨g, 0, none⟩) n c) n xs) : ∃ R, At w g e (xs ++ R) := by
  obtain ⟨_, ⟨h', _⟩ | ⟨g', cap', cur, hv, hb', hg, _, _, _, ht⟩⟩ := h
  · simp at h'
  · simp only [Value.slice.injEq, Option.some.injEq, Addr.mk.injEq, and_true] at hv
    obtain ⟨rfl, _⟩ := hv
    refine ⟨cur.toList.drop (n * 1), ?_⟩
    rw [← ht, List.take_append_drop]
    unfold At; rw [hg]
theorem Texts.left {w : World} {ad : Option Addr} {ps qs : List ByteArray} (h : Texts w ad (ps ++ qs)) : Texts w ad ps := fun j s hj => h j s (by rw [List.getElem?_append_left (List.getElem?_eq_some_iff.1 hj).1]; exact hj)
theorem texts_own2 (ps : List ByteArray) {b n : Nat} {e : TypeId} {v : Value} (hn : ps.length ≤ 2097152) (w : World) (h : w.ownsRow b e 1 v n (tcells ps)) :
    Calls Tryd.prog 21 #[v] w fun e w' => ∃ v', e = .returned v' ∧ w'.ownsRow w.heap.size 9 1 v' ps.length (tcells ps) ∧ Fr [] w w' := by
  obtain ⟨ad, c, rfl, rfl⟩ := own_val h
  exact texts26_any ps ad c hn w (Texts.ofOwn h)
set_option maxRecDepth 100000 in
set_option maxHeartbeats 4000000 in
theorem lturn_any (ps : List ByteArray) (n g c : Nat) (hn : n = ps.length) (hn2 : n ≤ 4194304) (hs : ∀ s ∈ ps, s.size ≤ 1048576) (R : List Value) (w : World) (hA : At w g 9 (tcells ps ++ R)) :
    Calls Tryd.prog 24 #[.slice (some ⟨g, 0, none⟩) n c] w fun e w' => e = .returned (.tuple #[]) ∧ At w' g 9 (tcells (turnT ps n) ++ R) ∧ Fr [g] w w' := by
  have HS := Lib.hid (And.intro hn hs)
  have A0 : At w g 9 (tcells (turnT ps 0) ++ R) := by rw [turnT_zero]; exact hA
  clear hn hs hA
  go_enter Tryd.func24, Tryd.ntmps24
  go_wp2_with fail
  go_loopw [2] (fun v wr => ∃ i : Nat, v = .int .i64 i ∧ i ≤ n + 1 ∧ i % 2 = 0 ∧ At wr g 9 (tcells (turnT ps i) ++ R) ∧ Fr [g] w wr) (fun v _ => n + 1 - (intOf v).toNat)
  case atStart => exact ⟨0, rfl, by omega, rfl, A0, Fr.refl _ _⟩
  case round =>
    clear A0
    obtain ⟨i, rfl, hi, he, A0, hF⟩ := hrel
    by_cases hl : i < n
    · have l1 : (i : Int) < n := by omega
      obtain ⟨s, hsi⟩ : ∃ s, ps[i]? = some s := ⟨_, List.getElem?_eq_getElem (by have := HS.out.1; omega)⟩
      have hss := HS.out.2 s (List.mem_of_getElem? hsi)
      have hc : wr.cell? ⟨g, i, none⟩ = some (.string s) := by
        rw [A0.cell, List.getElem?_append_left (by rw [tcells_len, turnT_len]; have := HS.out.1; omega)]
        simp [tcells, turnT_cur, hsi]
      have fz := A0.frozen i
      have hnx := turnT_next ps i s hsi he
      have k1 : ¬ 9223372036854775807 < s.size + (⟨#[120]⟩ : ByteArray).size := by have : (⟨#[120]⟩ : ByteArray).size = 1 := rfl; omega
      have k2 : ¬ 9223372036854775807 < s.size + 1 := by omega
      have A1 := A0.setCell i (.string (s ++ ⟨#[120]⟩))
      rw [tset _ _ _ _ (by rw [turnT_len]; have := HS.out.1; omega), hnx] at A1
      have hF1 := hF.trans (Fr.setCell [g] wr ⟨g, i, none⟩ (.string (s ++ ⟨#[120]⟩)) (.inl (by simp)))
      have HE := Lib.hid he
      clear hnx hsi he A0 hF
      go_wp2_with fail
      exact ⟨⟨i + 2, by simp, by omega, by have := HE.out; omega, A1, hF1⟩, by simp only [intOf]; omega⟩
    · have hT : turnT ps i = turnT ps n := by
        apply List.ext_getElem?
        intro j
        rw [turnT, turnT, List.getElem?_mapIdx, List.getElem?_mapIdx]
        by_cases hj : j < ps.length
        · have hn := HS.out.1
          have e1 : (j < i ∧ j % 2 = 0) ↔ (j < n ∧ j % 2 = 0) := ⟨fun h => ⟨by omega, h.2⟩, fun h => ⟨by omega, h.2⟩⟩
          simp only [e1]
        · rw [List.getElem?_eq_none (by omega)]; rfl
      rw [hT] at A0
      have l1 : ¬ (i : Int) < n := by omega
      clear hT he
      go_wp2_with fail
      go_end0
      exact ⟨rfl, A0, hF⟩
set_option maxRecDepth 100000 in
set_option maxHeartbeats 1000000 in
theorem sameTextsD_any (ps : List ByteArray) (ad1 ad2 : Option Addr) (c1 c2 : Nat) (hn : ps.length < 4611686018427387904) (w : World) (h1 : Texts w ad1 ps) (h2 : Texts w ad2 ps) :
    Calls Tryd.prog 14 #[.slice ad1 ps.length c1, .slice ad2 ps.length c2] w fun e w' => e = .returned (.bool true) ∧ Fr [] w w' := by
  go_enter Tryd.func14, Tryd.ntmps14
  go_wp2_with fail
  go_loopw [5] (fun v wr => ∃ i : Nat, i ≤ ps.length ∧ v = .int .i64 i ∧ Texts wr ad1 ps ∧ Texts wr ad2 ps ∧ Fr [] w wr) (fun v _ => ps.length - (intOf v).toNat)
  case atStart => exact ⟨0, by omega, rfl, h1, h2, Fr.refl _ _⟩
  case round =>
    clear h1 h2
    obtain ⟨i, hi, rfl, h1, h2, hF⟩ := hrel
    by_cases hl : i < ps.length
    · have l1 : (i : Int) < ps.length := by omega
      obtain ⟨g, o, rfl, hc⟩ := h1 i ps[i] (by simp [hl])
      obtain ⟨g', o', rfl, hd⟩ := h2 i ps[i] (by simp [hl])
      generalize ps[i] = d at hc hd
      go_wp2_with fail
      go_region
      go_wp2_with fail
      refine ⟨⟨i + 1, by omega, by simp, h1.keep (Fr.drew _ _), h2.keep (Fr.drew _ _), hF.trans (Fr.drew _ _)⟩, by simp only [intOf]; omega⟩
    · obtain rfl : i = ps.length := by omega
      go_wp2_with fail
      go_ret
      exact ⟨rfl, hF⟩
end Go.Proofs.YtffhfmaphjjffaaDoor
