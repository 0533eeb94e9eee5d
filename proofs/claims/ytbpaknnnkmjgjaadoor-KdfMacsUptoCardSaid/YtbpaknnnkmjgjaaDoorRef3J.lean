/- casketref3: texts joined, by the document. -/
import Derived.Test.YtbpaknnnkmjgjaaDoorRef2E
import Derived.Lib.AppendStr
namespace Go.Proofs.YtbpaknnnkmjgjaaDoor
open Go.RowKit Go.Lib Go.Joins Base
set_option linter.unusedVariables false
set_option linter.unusedSimpArgs false

set_option maxRecDepth 100000 in
set_option maxHeartbeats 1000000 in
theorem rjoined_any (ps : List ByteArray) (ad : Option Addr) (cap : Nat) (hj : (joinL ps).length ≤ 140737488355328) (hp63 : ps.length < 4611686018427387904) (w : World) (hp : Texts w ad ps) :
    Calls Tryd.prog 40 #[.slice ad ps.length cap] w fun e w' => e = .returned (.string ⟨(joinL ps).toArray⟩) ∧ Fr [] w w' := by
  have hi5 : (Tryd.prog.info? 5).map (fun i => (i.zero, i.size, i.bytes)) = some (some (.int .u8 0), 1, 1) := by kernel_rfl
  obtain ⟨iI, hiI, hz0, hz1, hz2⟩ := info_parts hi5
  go_enter Tryd.func40, Tryd.ntmps40
  go_wp2_with fail
  go_loopw [3, 4] (fun v3 v4 wr => ∃ i : Nat, i ≤ ps.length ∧ v4 = .int .i64 i ∧ wr.ownsRow w.heap.size 5 1 v3 (joinL (ps.take i)).length (byteCells (joinL (ps.take i))) ∧ Below w.heap.size w wr) (fun _ v _ => ps.length - (intOf v).toNat)
  case atStart => exact ⟨0, by omega, rfl, World.ownsRow_nil _ _ _ _, Below.refl _ _⟩
  case round =>
    obtain ⟨i, hi, rfl, h0, hF⟩ := hrel
    have hsz := hF.size
    by_cases hl : i < ps.length
    · have l1 : (i : Int) < ps.length := by omega
      obtain ⟨g, o, rfl, hc⟩ := hp.keep (Fr.ofBelow hF) i ps[i] (by simp [hl])
      have ht := joinL_take ps i hl
      have hle := joinL_le ps (i + 1)
      have hlen : (joinL (ps.take (i + 1))).length = (joinL (ps.take i)).length + ps[i].size := by rw [ht]; simp
      generalize ps[i] = d at hc ht hlen
      have HT := Lib.hid (And.intro ht hlen)
      have hb : (joinL (ps.take i)).length + d.size ≤ 140737488355328 := by omega
      clear ht hle hlen
      go_wp2_with (first
        | (at_builtin; refine wpList_append_own_string _ rfl _ _ _ _ rfl w.heap.size 5 iI Tryd.underlying59 Tryd.underlying9 hiI hz0 hz1 hz2 _ (joinL (ps.take i)).length _ rfl h0 d rfl (by simp [maxLen]; omega) hb hsz ?_; intro v2 w2 o2 gr2 _)
        | fail)
      refine ⟨⟨i + 1, by omega, by simp, ?_, ?_⟩, by simp only [intOf]; omega⟩
      · rw [HT.out.2, HT.out.1]
        have e : byteCells (joinL (ps.take i)) ++ strCells d = byteCells (joinL (ps.take i) ++ d.data.toList) := by simp [byteCells, strCells]
        rw [e] at o2
        exact o2
      · exact hF.grown gr2 hsz (fun x hx => (h0.lt x hx).1)
    · obtain rfl : i = ps.length := by omega
      rw [List.take_of_length_le (Nat.le_refl _)] at h0
      have hcv := run_strOwn Tryd.underlying59 Tryd.underlying5 Tryd.underlying9 h0
      go_wp2_with fail
      go_ret
      exact ⟨rfl, Fr.ofBelow hF⟩
end Go.Proofs.YtbpaknnnkmjgjaaDoor
