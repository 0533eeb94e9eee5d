/- The law's lists of texts: copied, and copied with marks behind. -/
import Derived.Test.YtffhfmaphjjffaaDoorSplP
import Derived.Test.YtffhfmaphjjffaaDoorUntil
namespace Go.Proofs.YtffhfmaphjjffaaDoor
open Go.RowKit Go.Lib Go.Joins Base
set_option linter.unusedVariables false
set_option linter.unusedSimpArgs false

theorem tcells_snoc (ps : List ByteArray) (i : Nat) (s : ByteArray) (h : ps[i]? = some s) : tcells (ps.take (i + 1)) = tcells (ps.take i) ++ [.string s] := by
  rw [List.take_add_one, h, tcells_app]; rfl
/-- A row of one's own, as the list of its texts. -/
theorem Texts.ofOwn {w : World} {b n c : Nat} {e : TypeId} {ad : Option Addr} {ps : List ByteArray} (h : w.ownsRow b e 1 (.slice ad n c) n (tcells ps)) : Texts w ad ps := by
  intro j s hj
  have h' := h
  obtain ⟨_, ⟨hv, h0⟩ | ⟨g, cap, cur, hv, r⟩⟩ := h'
  · exfalso
    have := h.1
    rw [tcells_len] at this
    have hlt := (List.getElem?_eq_some_iff.1 hj).1
    omega
  · simp only [Value.slice.injEq] at hv
    obtain ⟨rfl, _, rfl⟩ := hv
    refine ⟨g, 0, rfl, ?_⟩
    have := World.ownsRow.cells h rfl j (.string s) (by simp [tcells, hj])
    rw [addr_add'] at this
    simpa using this
theorem own_val {w : World} {b n : Nat} {e : TypeId} {v : Value} {ps : List ByteArray} (h : w.ownsRow b e 1 v n (tcells ps)) : ∃ ad c, v = .slice ad n c ∧ n = ps.length := by
  have hl : n = ps.length := by have := h.1; rw [tcells_len] at this; omega
  rcases ownsRow_forms h with ⟨rfl, rfl⟩ | ⟨g, cap, rfl⟩
  · exact ⟨none, 0, rfl, hl⟩
  · exact ⟨_, _, rfl, hl⟩
set_option maxRecDepth 100000 in
set_option maxHeartbeats 4000000 in
theorem texts26_any (ps : List ByteArray) (ad : Option Addr) (cap : Nat) (hn : ps.length ≤ 2097152) (w : World) (hT : Texts w ad ps) :
    Calls Tryd.prog 21 #[.slice ad ps.length cap] w fun e w' => ∃ v, e = .returned v ∧ w'.ownsRow w.heap.size 9 1 v ps.length (tcells ps) ∧ Fr [] w w' := by
  have hi5 : (Tryd.prog.info? 9).map (fun i => (i.zero, i.size, i.bytes)) = some (some (.string ⟨#[]⟩), 1, 16) := by kernel_rfl
  obtain ⟨iT, hiT, zT0, zT1, zT2⟩ := info_parts hi5
  go_enter Tryd.func21, Tryd.ntmps21
  go_wp2_with fail
  go_loopw [3, 4] (fun v3 v4 wr => ∃ i : Nat, i ≤ ps.length ∧ v4 = .int .i64 i ∧ wr.ownsRow w.heap.size 9 1 v3 i (tcells (ps.take i)) ∧ Below w.heap.size w wr) (fun _ v _ => ps.length - (intOf v).toNat)
  case atStart => exact ⟨0, by omega, rfl, World.ownsRow_nil _ _ _ _, Below.refl _ _⟩
  case round =>
    obtain ⟨i, hi, rfl, hV, hB⟩ := hrel
    by_cases hl : i < ps.length
    · have l1 : (i : Int) < ps.length := by omega
      obtain ⟨s, hs⟩ : ∃ s, ps[i]? = some s := ⟨_, List.getElem?_eq_getElem hl⟩
      obtain ⟨g, o, rfl, hc⟩ := (hT.keep (Fr.ofBelow hB)) i s hs
      have A6 := At.alloc_new wr 9 #[Value.string s]
      have hE := tcells_snoc ps i s hs
      have HE := Lib.hid hE
      have hsz := hB.size
      clear hs hE
      go_wp2_with (first
        | (at_builtin; refine wpList_append_own _ rfl _ _ _ rfl w.heap.size 9 iT (.string ⟨#[]⟩) 1 16 Tryd.underlying22 hiT zT0 zT1 zT2 rfl (by decide) _ i _ rfl (World.ownsRow.alloc hV _) ⟨wr.heap.size, 0, none⟩ 1 1 [.string s] rfl rfl (by intro j u hj; rw [addr_add', Nat.zero_add]; exact (A6.cell j).trans hj) (by intro u hu; simp at hu; subst hu; rfl) (by simp [maxLen]; omega) (by omega) (by simp; omega) ?_; intro v7 w7 o7 gr7 _)
        | fail)
      refine ⟨⟨i + 1, by omega, by simp, ?_, ?_⟩, by simp only [intOf]; omega⟩
      · rw [HE.out]; exact o7
      · exact (hB.alloc (by omega) _).grown gr7 (by simp; omega) (fun k hk => (hV.lt k hk).1)
    · obtain rfl : i = ps.length := by omega
      rw [List.take_length] at hV
      go_wp2_with fail
      go_ret
      exact ⟨_, rfl, hV, Fr.ofBelow hB⟩
def marks (n : Nat) : List ByteArray := List.replicate n ⟨#[35]⟩
theorem marks_snoc (n : Nat) : marks (n + 1) = marks n ++ [⟨#[35]⟩] := by simp [marks, List.replicate_succ']
set_option maxRecDepth 100000 in
set_option maxHeartbeats 4000000 in
theorem longer_any (ps : List ByteArray) (ad : Option Addr) (cap : Nat) (hn : ps.length ≤ 1048576) (w : World) (hT : Texts w ad ps) :
    Calls Tryd.prog 20 #[.slice ad ps.length cap] w fun e w' => ∃ v, e = .returned v ∧ w'.ownsRow w.heap.size 9 1 v (ps.length + 64) (tcells (ps ++ marks 64)) ∧ Fr [] w w' := by
  have hi5 : (Tryd.prog.info? 9).map (fun i => (i.zero, i.size, i.bytes)) = some (some (.string ⟨#[]⟩), 1, 16) := by kernel_rfl
  obtain ⟨iT, hiT, zT0, zT1, zT2⟩ := info_parts hi5
  have cT := texts26_any ps ad cap (by omega) w hT
  go_enter Tryd.func20, Tryd.ntmps20
  go_wp2_with (first
    | (go_at_call 21; refine cT.mono ?_; clear cT; rintro e w1 ⟨v1, rfl, hV, f1⟩)
    | fail)
  go_loopw [3, 4] (fun v3 v4 wr => ∃ i : Nat, i ≤ 64 ∧ v4 = .int .i64 i ∧ wr.ownsRow w.heap.size 9 1 v3 (ps.length + i) (tcells (ps ++ marks i)) ∧ Below w.heap.size w wr) (fun _ v _ => 64 - (intOf v).toNat)
  case atStart => exact ⟨0, by omega, rfl, by simpa [marks] using hV, f1.below⟩
  case round =>
    clear hV f1
    obtain ⟨i, hi, rfl, hV, hB⟩ := hrel
    by_cases hl : i < 64
    · have l1 : (i : Int) < 64 := by omega
      have A6 := At.alloc_new wr 9 #[Value.string ⟨#[35]⟩]
      have hE : tcells (ps ++ marks (i + 1)) = tcells (ps ++ marks i) ++ [.string ⟨#[35]⟩] := by rw [marks_snoc, ← List.append_assoc, tcells_app (ps ++ marks i)]; rfl
      have HE := Lib.hid hE
      have hsz := hB.size
      clear hE
      go_wp2_with (first
        | (at_builtin; refine wpList_append_own _ rfl _ _ _ rfl w.heap.size 9 iT (.string ⟨#[]⟩) 1 16 Tryd.underlying22 hiT zT0 zT1 zT2 rfl (by decide) _ (ps.length + i) _ rfl (World.ownsRow.alloc hV _) ⟨wr.heap.size, 0, none⟩ 1 1 [.string ⟨#[35]⟩] rfl rfl (by intro j u hj; rw [addr_add', Nat.zero_add]; exact (A6.cell j).trans hj) (by intro u hu; simp at hu; subst hu; rfl) (by simp [maxLen]; omega) (by omega) (by simp; omega) ?_; intro v7 w7 o7 gr7 _)
        | fail)
      refine ⟨⟨i + 1, by omega, by simp, ?_, ?_⟩, by simp only [intOf]; omega⟩
      · rw [HE.out]; exact o7
      · exact (hB.alloc (by omega) _).grown gr7 (by simp; omega) (fun k hk => (hV.lt k hk).1)
    · obtain rfl : i = 64 := by omega
      go_wp2_with fail
      go_ret
      exact ⟨_, rfl, hV, Fr.ofBelow hB⟩
end Go.Proofs.YtffhfmaphjjffaaDoor
