/- Sum of the program, of any parts. -/
import Derived.Test.YtkagmoaapampgaaDoorShaSum
namespace Go.Proofs.YtkagmoaapampgaaDoor
open Go.RowKit Go.Lib Go.Joins Base
set_option linter.unusedVariables false
set_option linter.unusedSimpArgs false

/-- The parts, one behind the other. -/
def joinL (ps : List ByteArray) : List UInt8 := (ps.map (·.data.toList)).flatten
theorem joinL_take (ps : List ByteArray) (i : Nat) (h : i < ps.length) : joinL (ps.take (i + 1)) = joinL (ps.take i) ++ ps[i].data.toList := by
  unfold joinL
  rw [List.take_add_one, List.getElem?_eq_getElem h, List.map_append, List.flatten_append]
  simp
theorem joinL_le (ps : List ByteArray) (i : Nat) : (joinL (ps.take i)).length ≤ (joinL ps).length := by
  have e : joinL ps = joinL (ps.take i) ++ joinL (ps.drop i) := by
    unfold joinL; rw [← List.flatten_append, ← List.map_append, List.take_append_drop]
  rw [e, List.length_append]; omega
/-- Texts in places of memory: a list handed over. -/
def Texts (w : World) (ad : Option Addr) (ps : List ByteArray) : Prop := ∀ j s, ps[j]? = some s → ∃ g o, ad = some ⟨g, o, none⟩ ∧ w.cell? ⟨g, o + j, none⟩ = some (.string s)
theorem Texts.keep {w w' : World} {ad : Option Addr} {ps : List ByteArray} (h : Texts w ad ps) (f : Fr [] w w') : Texts w' ad ps := by
  intro j s hj
  obtain ⟨g, o, e, hc⟩ := h j s hj
  refine ⟨g, o, e, ?_⟩
  rw [← hc]
  have hb : g < w.heap.size := by
    rcases Nat.lt_or_ge g w.heap.size with h' | h'
    · exact h'
    · simp only [World.cell?, Array.getElem?_eq_none h'] at hc; cases hc
  simp only [World.cell?]
  rw [f.block _ hb (by simp)]
theorem First.keep {w w' : World} (h : First w) (hf : Fr [] w w') : First w' := by
  intro j v hj
  have hc := h j v hj
  rw [← hc]
  have hb : 0 < w.heap.size := by
    rcases Nat.lt_or_ge 0 w.heap.size with h' | h'
    · exact h'
    · simp only [World.cell?, Array.getElem?_eq_none h'] at hc; cases hc
  simp only [World.cell?]
  rw [hf.block _ hb (by simp)]
theorem Hold.keep {w w' : World} {S : List Nat} {b : Nat} {H : List UInt32} {rest : List UInt8} {n : Nat} (h : Hold w b H rest n) (f : Fr S w w') (hS : b ∉ S) : Hold w' b H rest n := by
  obtain ⟨hb, hH, hr, tail, htl, htk, hA⟩ := h
  exact ⟨hb, hH, hr, tail, htl, htk, f.keep hA hS⟩

set_option maxRecDepth 100000 in
set_option maxHeartbeats 1000000 in
theorem sum_any (ps : List ByteArray) (ad : Option Addr) (cap : Nat) (hb : (joinL ps).length ≤ 1152921504606846976) (hp63 : ps.length < 4611686018427387904) (w : World) (hI : First w) (hR : Roots w) (hp : Texts w ad ps) :
    Calls Tryd.prog 10 #[.slice ad ps.length cap] w fun e w' => e = .returned (.string ⟨(shaL (joinL ps)).toArray⟩) ∧ Fr [] w w' := by
  go_enter Tryd.func10, Tryd.ntmps10
  go_wp2_with (first
    | (go_at_call 22; refine (newHasher_any w hI hR).mono ?_; rintro e w1 ⟨rfl, h1, f1⟩)
    | fail)
  obtain ⟨p, hp0⟩ : ∃ p, p = w.heap.size := ⟨_, rfl⟩
  rw [← hp0] at h1 ⊢
  have HP := Lib.hid hp0
  clear hp0
  go_loopw [9] (fun v wr => ∃ i : Nat, i ≤ ps.length ∧ v = .int .i64 i ∧ Hold wr p (wordsOf firstL (joinL (ps.take i))) (restOf (joinL (ps.take i))) (joinL (ps.take i)).length ∧ Fr [] w wr) (fun v _ => ps.length - (intOf v).toNat)
  case atStart => exact ⟨0, by omega, rfl, by rw [show joinL (ps.take 0) = [] from rfl]; exact h1, f1⟩
  case round =>
    clear h1 f1
    obtain ⟨i, hi, rfl, h0, hF⟩ := hrel
    by_cases hl : i < ps.length
    · have l1 : (i : Int) < ps.length := by omega
      obtain ⟨g, o, rfl, hc⟩ := hp.keep hF i ps[i] (by simp [hl])
      have hj := joinL_take ps i hl
      have hle := joinL_le ps (i + 1)
      have hlen : (joinL (ps.take (i + 1))).length = (joinL (ps.take i)).length + ps[i].size := by rw [hj]; simp
      have htk : ∀ wr', Roots wr' → Hold wr' p _ _ _ → Calls Tryd.prog 26 #[.pointer (some ⟨p, 0, none⟩), .string ps[i]] wr' _ := fun wr' hR' h' => take_any (wordsOf firstL (joinL (ps.take i))) (restOf (joinL (ps.take i))) (joinL (ps.take i)).length p ps[i] (by omega) wr' hR' h'
      rw [wordsOf_app, restOf_app, ← hj, ← hlen] at htk
      have HT := Lib.hid (And.intro hj hlen)
      clear hj hlen
      generalize ps[i] = d at hc htk
      go_wp2_with (first
        | (go_at_call 26; refine (htk _ (hR.keep hF (by simp)) h0).mono ?_; rintro e w3 ⟨rfl, h3, f3⟩)
        | fail)
      have hpl := HP.out
      refine ⟨⟨i + 1, by omega, by simp, h3, hF.new f3 (by simp; omega)⟩, by simp only [intOf]; omega⟩
    · obtain rfl : i = ps.length := by omega
      rw [List.take_of_length_le (Nat.le_refl _)] at h0
      have hs := fun w' hR' h' => hsum_any (wordsOf firstL (joinL ps)) (restOf (joinL ps)) (joinL ps).length p hb w' hR' h'
      rw [sumOf_rest] at hs
      go_wp2_with (first
        | (go_at_call 24; refine (hs _ (hR.keep hF (by simp)) h0).mono ?_; rintro e w3 ⟨rfl, f3⟩)
        | fail)
      go_ret
      exact ⟨rfl, hF.trans f3⟩
end Go.Proofs.YtkagmoaapampgaaDoor
