/- casketref4: start, rounds, bytesOf. -/
import Derived.Test.YtichgiecohhmgaaDoorRef4
import Derived.Test.YtichgiecohhmgaaDoorHash
import Derived.Lib.SmallJoins
namespace Go.Proofs.YtichgiecohhmgaaDoor
open Go.RowKit Go.Lib Base Go.Joins
set_option linter.unusedVariables false
set_option linter.unusedSimpArgs false

theorem icells_one (s : List UInt32) : ∀ u ∈ icells s, u.oneCell' = true := by
  intro u hu; obtain ⟨x, _, rfl⟩ := List.mem_map.1 hu; rfl
theorem icells_len (s : List UInt32) : (icells s).length = s.length := by simp [icells]

set_option maxRecDepth 100000 in
set_option maxHeartbeats 1000000 in
theorem start_any (k : ByteArray) (hk : k.size = 32) (four : List UInt32) (hf4 : four.length = 4) (v4 : Value) (base : Nat) (w : World) (h4 : w.ownsRow base 3 1 v4 4 (icells four)) (hb : base ≤ w.heap.size) :
    Calls Tryd.prog 66 #[.string k, v4] w fun e w' => ∃ v, e = .returned v ∧ w'.ownsRow w.heap.size 3 1 v 16 (icells (heads ++ words k.data.toList ++ four)) ∧ Fr [] w w' := by
  obtain ⟨iI, hiI, hz0, hz1, hz2⟩ := info_parts (P := Tryd.prog) (show (Tryd.prog.info? 3).map (fun i => (i.zero, i.size, i.bytes)) = some (some (.int .i64 0), 1, 8) by kernel_rfl)
  go_enter Tryd.func66, Tryd.ntmps66
  obtain ⟨g4, c4, rfl⟩ := ownsRow_form h4 (by omega)
  have hfa : Fr [] w (w.alloc (.cells #[Value.int IntKind.i64 1634760805, Value.int IntKind.i64 857760878, Value.int IntKind.i64 2036477234, Value.int IntKind.i64 1797285236] 3)) := Fr.alloc _ _ _
  have ol : (w.alloc (.cells #[Value.int IntKind.i64 1634760805, Value.int IntKind.i64 857760878, Value.int IntKind.i64 2036477234, Value.int IntKind.i64 1797285236] 3)).ownsRow w.heap.size 3 1 (.slice (some ⟨w.heap.size, 0, none⟩) 4 4) 4 (icells heads) := by
    have := World.ownsRow_lit (e := 3) (size := 1) (base := w.heap.size) w #[Value.int IntKind.i64 1634760805, Value.int IntKind.i64 857760878, Value.int IntKind.i64 2036477234, Value.int IntKind.i64 1797285236] 4 (Nat.le_refl _) (by simp [maxLen]) rfl
    exact this
  have hwl := words_len 8 k.data.toList (by simpa using hk)
  go_wp2_with (first
    | (go_at_call 67; refine (wordsOf_any k 8 (by omega) (by omega) _).mono ?_; rintro e w1 ⟨v, rfl, o1, f1⟩; obtain ⟨g, cap, rfl⟩ := ownsRow_form o1 (by omega))
    | (at_builtin; refine wpList_append_own _ rfl _ _ _ rfl w.heap.size 3 iI (.int .i64 0) 1 8 Tryd.underlying107 hiI hz0 hz1 hz2 rfl (by decide) _ 4 _ rfl (own_fr ol f1 (by simp)) ⟨g, 0, none⟩ 8 cap (icells (words k.data.toList)) rfl (by rw [icells_len]; omega) (o1.cells rfl) (icells_one _) (by simp [maxLen]) (by omega) (by have := (hfa.trans f1).size; omega) ?_; intro v2 w2 o2 gr2 _; have f2 : Fr [] w w2 := Fr.new (hfa.trans f1) (Fr.ofGrown (S := [w.heap.size]) gr2 (by intro q hq; have hq' : some w.heap.size = some q := hq; have := Option.some.inj hq'; simp [this])) (by simp))
    | (at_builtin; refine wpList_append_own _ rfl _ _ _ rfl w.heap.size 3 iI (.int .i64 0) 1 8 Tryd.underlying107 hiI hz0 hz1 hz2 rfl (by decide) _ 12 _ rfl o2 ⟨g4, 0, none⟩ 4 c4 (icells four) rfl (by rw [icells_len]; omega) ((own_fr h4 f2 (by simp)).cells rfl) (icells_one _) (by simp [maxLen]) (by omega) f2.size ?_; intro v3 w3 o3 gr3 _; have f3 : Fr [] w w3 := f2.new (S := v2.ownBlock.toList) (Fr.ofGrown gr3 (by intro q hq; rw [show v2.ownBlock = some q from hq]; simp)) (fun x hx => (o2.lt x (by simpa using hx)).1))
    | fail)
  go_ret
  exact ⟨_, rfl, by simpa [icells] using o3, f3⟩
end Go.Proofs.YtichgiecohhmgaaDoor
