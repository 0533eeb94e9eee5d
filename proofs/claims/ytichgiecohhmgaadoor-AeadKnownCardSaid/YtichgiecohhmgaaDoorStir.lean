/- What stir of the program does: ten double rounds over sixteen words. -/
import Derived.Test.YtichgiecohhmgaaDoorQuarter
import Derived.Test.YtichgiecohhmgaaDoorUntil
import Derived.Deep.Cut
import Derived.Deep.DeepCutAuto
import Derived.StillTailTactics
import Derived.Deep.MidRow
import Derived.Deep.RegionHeld3
namespace Go.Proofs.YtichgiecohhmgaaDoor
open Go.RowKit Go.Lib Base
set_option linter.unusedVariables false
set_option linter.unusedSimpArgs false

/-- Sixteen words as cells. -/
def wcells (s : List UInt32) : List Value := s.map fun x => .int .u32 (wd x)
def quads : List (Nat × Nat × Nat × Nat) := [(0, 4, 8, 12), (1, 5, 9, 13), (2, 6, 10, 14), (3, 7, 11, 15), (0, 5, 10, 15), (1, 6, 11, 12), (2, 7, 8, 13), (3, 4, 9, 14)]
/-- A quarter round at four places. -/
def quarterAt (s : List UInt32) (q : Nat × Nat × Nat × Nat) : List UInt32 :=
  let r := qr (s.getD q.1 0) (s.getD q.2.1 0) (s.getD q.2.2.1 0) (s.getD q.2.2.2 0)
  (((s.set q.1 r.1).set q.2.1 r.2.1).set q.2.2.1 r.2.2.1).set q.2.2.2 r.2.2.2
/-- n quarter rounds of a double round. -/
def partRound (s : List UInt32) (n : Nat) : List UInt32 := (quads.take n).foldl quarterAt s
def doubles (s : List UInt32) : Nat → List UInt32
  | 0 => s
  | n + 1 => partRound (doubles s n) 8

def tabRounds : List Int := [0, 4, 8, 12, 1, 5, 9, 13, 2, 6, 10, 14, 3, 7, 11, 15, 0, 5, 10, 15, 1, 6, 11, 12, 2, 7, 8, 13, 3, 4, 9, 14]
/-- The table 'rounds' lies in its block. -/
def Rounds (w : World) : Prop := w.rangeAt 0 0 (tabRounds.map fun n => Value.int .i64 n)
theorem Rounds.keep {S : List Nat} {w w' : World} (h : Rounds w) (hf : Fr S w w') (hS : 0 ∉ S) : Rounds w' := by
  intro j v hj
  have hc := h j v hj
  rw [← hc]
  have hb : 0 < w.heap.size := by
    rcases Nat.lt_or_ge 0 w.heap.size with h' | h'
    · exact h'
    · simp only [World.cell?, Array.getElem?_eq_none h'] at hc; cases hc
  simp only [World.cell?]
  rw [hf.block _ hb hS]

theorem quarterAt_len (s : List UInt32) (q : Nat × Nat × Nat × Nat) : (quarterAt s q).length = s.length := by simp [quarterAt]
theorem foldl_len : ∀ (l : List (Nat × Nat × Nat × Nat)) (s : List UInt32), (l.foldl quarterAt s).length = s.length
  | [], _ => rfl
  | q :: l, s => by rw [List.foldl_cons, foldl_len l, quarterAt_len]
theorem partRound_len (s : List UInt32) (n : Nat) : (partRound s n).length = s.length := foldl_len _ _
theorem doubles_len (s : List UInt32) : ∀ n, (doubles s n).length = s.length
  | 0 => rfl
  | n + 1 => by show (partRound (doubles s n) 8).length = _; rw [partRound_len, doubles_len s n]
theorem partRound_succ (s : List UInt32) (n : Nat) (h : n < 8) : partRound s (n + 1) = quarterAt (partRound s n) (quads.getD n (0, 0, 0, 0)) := by
  unfold partRound
  rw [List.take_succ_eq_append_getElem (by simpa [quads] using h), List.foldl_append]
  simp [List.getD, show n < quads.length by simpa [quads] using h]
theorem quads_ok : ∀ n, n < 8 → let q := quads.getD n (0, 0, 0, 0); (q.1 < 16 ∧ q.2.1 < 16 ∧ q.2.2.1 < 16 ∧ q.2.2.2 < 16) ∧ q.1 ≠ q.2.1 ∧ q.1 ≠ q.2.2.1 ∧ q.1 ≠ q.2.2.2 ∧ q.2.1 ≠ q.2.2.1 ∧ q.2.1 ≠ q.2.2.2 ∧ q.2.2.1 ≠ q.2.2.2 := by decide
theorem idxRow (n : Nat) (h : n < 8) (w : World) : (Instr.index 91 (.agg (tabRounds.map fun n => Value.int .i64 n).toArray) (.int .i64 n)).run Tryd.prog w =
    .ok (.agg #[.int .i64 (quads.getD n (0, 0, 0, 0)).1, .int .i64 (quads.getD n (0, 0, 0, 0)).2.1, .int .i64 (quads.getD n (0, 0, 0, 0)).2.2.1, .int .i64 (quads.getD n (0, 0, 0, 0)).2.2.2]) w := by
  obtain rfl | rfl | rfl | rfl | rfl | rfl | rfl | rfl : n = 0 ∨ n = 1 ∨ n = 2 ∨ n = 3 ∨ n = 4 ∨ n = 5 ∨ n = 6 ∨ n = 7 := by omega
  all_goals kernel_rfl
theorem wcells_get (s : List UInt32) (i : Nat) (h : i < s.length) : (wcells s)[i]? = some (.int .u32 (wd (s.getD i 0))) := by
  simp [wcells, List.getD, h]
theorem wcells_set (s : List UInt32) (i : Nat) (x : UInt32) : (wcells s).set i (.int .u32 (wd x)) = wcells (s.set i x) := by
  simp [wcells, List.map_set]

theorem At.four {W : World} {b : Nat} {T : TypeId} {x y z u : Value} (h : At W b T [x, y, z, u]) :
    W.cell? ⟨b, 0, none⟩ = some x ∧ W.cell? ⟨b, 1, none⟩ = some y ∧ W.cell? ⟨b, 2, none⟩ = some z ∧ W.cell? ⟨b, 3, none⟩ = some u := by
  have h0 := h.cell 0
  have h1 := h.cell 1
  have h2 := h.cell 2
  have h3 := h.cell 3
  simp at h0 h1 h2 h3
  exact ⟨h0, h1, h2, h3⟩
set_option maxRecDepth 100000 in
set_option maxHeartbeats 1000000 in
theorem stir_any (s : List UInt32) (hs : s.length = 16) (w : World) (ht : Rounds w) :
    Calls Tryd.prog 39 #[.agg (wcells s).toArray] w fun e w' => e = .returned (.agg (wcells (doubles s 10)).toArray) ∧ Fr [] w w' := by
  go_enter Tryd.func39, Tryd.ntmps39
  go_wp2_with fail
  go_loopw [5] (fun v wr => ∃ k : Nat, k ≤ 10 ∧ v = .int .i64 k ∧ At wr w.heap.size 56 (wcells (doubles s k)) ∧ At wr (w.heap.size + 1) 56 (List.replicate 16 (.int .u32 0)) ∧ Fr [] w wr) (fun v _ => 10 - (intOf v).toNat)
  case atStart =>
    refine ⟨0, by omega, rfl, (At.alloc_new w 56 (wcells s).toArray).alloc _, ?_, (Fr.alloc _ _ _).trans (Fr.alloc _ _ _)⟩
    have := At.alloc_new (w.alloc (.cells (wcells s).toArray 56)) 56 (List.replicate 16 (Value.int .u32 0)).toArray
    simpa using this
  case round =>
    obtain ⟨k, hk, rfl, h1, h2, hf⟩ := hrel
    by_cases hlt : k < 10
    · obtain ⟨wo, rfl⟩ : ∃ wo : World, wo = wr := ⟨_, rfl⟩
      have htw := Lib.hid (ht.keep hf (by simp))
      go_wp2_with (refine wpList_load_mid rfl 91 (.global 0) rfl 0 0 rfl _ _ htw.out Tryd.underlying91 rfl (by kernel_rfl) ?_)
      go_loopw [8] (fun v wr => ∃ q : Nat, q ≤ 8 ∧ v = .int .i64 q ∧ At wr w.heap.size 56 (wcells (partRound (doubles s k) q)) ∧ At wr (w.heap.size + 1) 56 (List.replicate 16 (.int .u32 0)) ∧ Fr [] w wr) (fun v _ => 8 - (intOf v).toNat)
      case atStart => exact ⟨0, by omega, rfl, h1, h2, hf⟩
      case round =>
        obtain ⟨q, hq, rfl, h1, h2, hf⟩ := hrel
        by_cases hlt2 : q < 8
        · have hix := idxRow q hlt2
          have hok := quads_ok q hlt2
          have hps := partRound_succ (doubles s k) q hlt2
          have hln : (partRound (doubles s k) q).length = 16 := by rw [partRound_len, doubles_len, hs]
          have HPS := Lib.hid hps
          clear hps
          generalize quads.getD q (0, 0, 0, 0) = qd at hix hok HPS
          obtain ⟨i, j, l, m⟩ := qd
          dsimp only at hix hok
          obtain ⟨⟨i1, j1, l1, m1⟩, ij, il, im, jl, jm, lm⟩ := hok
          generalize partRound (doubles s k) q = st at h1 hln HPS
          have ci := h1.cell i
          have cj := h1.cell j
          have cl := h1.cell l
          have cm := h1.cell m
          rw [wcells_get _ _ (by omega)] at ci cj cl cm
          have fi := h1.frozen i
          have fj := h1.frozen j
          have fl := h1.frozen l
          have fm := h1.frozen m
          have hlt1 := h1.lt
          have hne : wr.heap.size ≠ w.heap.size := by have := hlt1; omega
          have hne' : w.heap.size ≠ wr.heap.size := Ne.symm hne
          have ji := Ne.symm ij; have li := Ne.symm il; have mi := Ne.symm im; have lj := Ne.symm jl; have mj := Ne.symm jm; have ml := Ne.symm lm
          go_wp2_with fail
          obtain ⟨wp, hwp⟩ : ∃ wp : World, wp = wr.alloc (Obj.cells #[Value.int IntKind.i64 ↑i, Value.int IntKind.i64 ↑j, Value.int IntKind.i64 ↑l, Value.int IntKind.i64 ↑m] 78) := ⟨_, rfl⟩
          rw [← hwp]
          have hp : At wp wr.heap.size 78 [Value.int IntKind.i64 ↑i, Value.int IntKind.i64 ↑j, Value.int IntKind.i64 ↑l, Value.int IntKind.i64 ↑m] := by rw [hwp]; exact At.alloc_new wr 78 #[Value.int IntKind.i64 ↑i, Value.int IntKind.i64 ↑j, Value.int IntKind.i64 ↑l, Value.int IntKind.i64 ↑m]
          have h1 : At wp w.heap.size 56 (wcells st) := by rw [hwp]; exact h1.alloc _
          have h2 : At wp (w.heap.size + 1) 56 (List.replicate 16 (.int .u32 0)) := by rw [hwp]; exact h2.alloc _
          have hf : Fr [] w wp := by rw [hwp]; exact hf.trans (Fr.alloc _ _ _)
          clear hwp ci cj cl cm fi fj fl fm hlt1
          have p0 := hp.cell 0
          have p1 := hp.cell 1
          have p2 := hp.cell 2
          have p3 := hp.cell 3
          simp at p0 p1 p2 p3
          have ci := h1.cell i
          have cj := h1.cell j
          have cl := h1.cell l
          have cm := h1.cell m
          rw [wcells_get _ _ (by omega)] at ci cj cl cm
          have fi := h1.frozen i
          have fj := h1.frozen j
          have fl := h1.frozen l
          have fm := h1.frozen m
          obtain ⟨a, ha⟩ : ∃ a, a = st.getD i 0 := ⟨_, rfl⟩
          obtain ⟨b, hb⟩ : ∃ a, a = st.getD j 0 := ⟨_, rfl⟩
          obtain ⟨c, hc⟩ : ∃ a, a = st.getD l 0 := ⟨_, rfl⟩
          obtain ⟨d, hd⟩ : ∃ a, a = st.getD m 0 := ⟨_, rfl⟩
          rw [← ha] at ci
          rw [← hb] at cj
          rw [← hc] at cl
          rw [← hd] at cm
          have HA := Lib.hid (And.intro ha (And.intro hb (And.intro hc hd)))
          clear ha hb hc hd
          refine wp_region_until (fun w' => w'.cell? ⟨wr.heap.size, 0, none⟩ = some (.int .i64 i) ∧ w'.cell? ⟨wr.heap.size, 1, none⟩ = some (.int .i64 j) ∧ w'.cell? ⟨wr.heap.size, 2, none⟩ = some (.int .i64 l) ∧ w'.cell? ⟨wr.heap.size, 3, none⟩ = some (.int .i64 m))
            (fun w' => w'.cell? ⟨w.heap.size, i, none⟩ = some (.int .u32 (wd a)) ∧ w'.cell? ⟨w.heap.size, j, none⟩ = some (.int .u32 (wd b)) ∧ w'.cell? ⟨w.heap.size, l, none⟩ = some (.int .u32 (wd c)) ∧ w'.cell? ⟨w.heap.size, m, none⟩ = some (.int .u32 (wd d))) 31 (by rfl) ?_
          have s0 : _ ∧ _ ∧ _ ∧ _ := ⟨p0, p1, p2, p3⟩
          have s1 : _ ∧ _ ∧ _ ∧ _ := ⟨ci, cj, cl, cm⟩
          have s1' := fun (_ : (false = false)) => s1
          have i16 : (i : Int) < 16 := by omega
          have j16 : (j : Int) < 16 := by omega
          have l16 : (l : Int) < 16 := by omega
          have m16 : (m : Int) < 16 := by omega
          refine until_t0 0 (v := ?_) rfl (by kernel_rfl) (fun _ _ _ h => h) (Or.inl ⟨by rfl, ?_⟩) (by assumption) (fun h => by first | assumption | exact absurd (h : true = false) (by decide)) ?_
          rotate_left
          · intro w hSw; (try dsimp only at hSw); (try go_simp); (try with_reducible rfl)
          try simp only [Act.put, List.setIfInBounds_toArray, List.set_cons_zero, List.set_cons_succ]
          refine until_t0 1 (v := ?_) rfl (by kernel_rfl) (fun _ _ _ h => h) (Or.inl ⟨by rfl, ?_⟩) (by assumption) (fun h => by first | assumption | exact absurd (h : true = false) (by decide)) ?_
          rotate_left
          · intro w hSw; (try dsimp only at hSw); (try go_simp); (try with_reducible rfl)
          try simp only [Act.put, List.setIfInBounds_toArray, List.set_cons_zero, List.set_cons_succ]
          refine until_t0 2 (v := ?_) rfl (by kernel_rfl) (fun _ _ _ h => h) (Or.inl ⟨by rfl, ?_⟩) (by assumption) (fun h => by first | assumption | exact absurd (h : true = false) (by decide)) ?_
          rotate_left
          · intro w hSw; (try dsimp only at hSw); (try go_simp); (try with_reducible rfl)
          try simp only [Act.put, List.setIfInBounds_toArray, List.set_cons_zero, List.set_cons_succ]
          refine until_t0 3 (v := ?_) rfl (by kernel_rfl) (fun _ _ _ h => h) (Or.inl ⟨by rfl, ?_⟩) (by assumption) (fun h => by first | assumption | exact absurd (h : true = false) (by decide)) ?_
          rotate_left
          · intro w hSw; (try dsimp only at hSw); (try go_simp); (try with_reducible rfl)
          try simp only [Act.put, List.setIfInBounds_toArray, List.set_cons_zero, List.set_cons_succ]
          refine until_t0 4 (v := ?_) rfl (by kernel_rfl) (fun _ _ _ h => h) (Or.inl ⟨by rfl, ?_⟩) (by assumption) (fun h => by first | assumption | exact absurd (h : true = false) (by decide)) ?_
          rotate_left
          · intro w hSw; (try dsimp only at hSw); (try go_simp); (try with_reducible rfl)
          try simp only [Act.put, List.setIfInBounds_toArray, List.set_cons_zero, List.set_cons_succ]
          refine until_t0 5 (v := ?_) rfl (by kernel_rfl) (fun _ _ _ h => h) (Or.inl ⟨by rfl, ?_⟩) (by assumption) (fun h => by first | assumption | exact absurd (h : true = false) (by decide)) ?_
          rotate_left
          · intro w hSw; (try dsimp only at hSw); (try go_simp); (try with_reducible rfl)
          try simp only [Act.put, List.setIfInBounds_toArray, List.set_cons_zero, List.set_cons_succ]
          refine until_t0 6 (v := ?_) rfl (by kernel_rfl) (fun _ _ _ h => h) (Or.inl ⟨by rfl, ?_⟩) (by assumption) (fun h => by first | assumption | exact absurd (h : true = false) (by decide)) ?_
          rotate_left
          · intro w hSw; (try dsimp only at hSw); (try go_simp); (try with_reducible rfl)
          try simp only [Act.put, List.setIfInBounds_toArray, List.set_cons_zero, List.set_cons_succ]
          refine until_t0 7 (v := ?_) rfl (by kernel_rfl) (fun _ _ _ h => h) (Or.inl ⟨by rfl, ?_⟩) (by assumption) (fun h => by first | assumption | exact absurd (h : true = false) (by decide)) ?_
          rotate_left
          · intro w hSw; (try dsimp only at hSw); (try go_simp); (try with_reducible rfl)
          try simp only [Act.put, List.setIfInBounds_toArray, List.set_cons_zero, List.set_cons_succ]
          refine until_t0 8 (v := ?_) rfl (by kernel_rfl) (fun _ _ _ h => h) (Or.inl ⟨by rfl, ?_⟩) (by assumption) (fun h => by first | assumption | exact absurd (h : true = false) (by decide)) ?_
          rotate_left
          · intro w hSw; (try dsimp only at hSw); (try go_simp); (try with_reducible rfl)
          try simp only [Act.put, List.setIfInBounds_toArray, List.set_cons_zero, List.set_cons_succ]
          refine until_t0 9 (v := ?_) rfl (by kernel_rfl) (fun _ _ _ h => h) (Or.inl ⟨by rfl, ?_⟩) (by assumption) (fun h => by first | assumption | exact absurd (h : true = false) (by decide)) ?_
          rotate_left
          · intro w hSw; (try dsimp only at hSw); (try go_simp); (try with_reducible rfl)
          try simp only [Act.put, List.setIfInBounds_toArray, List.set_cons_zero, List.set_cons_succ]
          refine until_t0 10 (v := ?_) rfl (by kernel_rfl) (fun _ _ _ h => h) (Or.inl ⟨by rfl, ?_⟩) (by assumption) (fun h => by first | assumption | exact absurd (h : true = false) (by decide)) ?_
          rotate_left
          · intro w hSw; (try dsimp only at hSw); (try go_simp); (try with_reducible rfl)
          try simp only [Act.put, List.setIfInBounds_toArray, List.set_cons_zero, List.set_cons_succ]
          refine until_t1 11 (v := ?_) rfl (by kernel_rfl) (fun _ _ _ h => h) (Or.inl ⟨by rfl, ?_⟩) (by assumption) (fun h => by first | assumption | exact absurd (h : true = false) (by decide)) ?_
          rotate_left
          · intro w hSw; (try dsimp only at hSw); (try go_simp); (try with_reducible rfl)
          try simp only [Act.put, List.setIfInBounds_toArray, List.set_cons_zero, List.set_cons_succ]
          refine until_t0 12 (v := ?_) rfl (by kernel_rfl) (fun _ _ _ h => h) (Or.inl ⟨by rfl, ?_⟩) (by assumption) (fun h => by first | assumption | exact absurd (h : true = false) (by decide)) ?_
          rotate_left
          · intro w hSw; (try dsimp only at hSw); (try go_simp); (try with_reducible rfl)
          try simp only [Act.put, List.setIfInBounds_toArray, List.set_cons_zero, List.set_cons_succ]
          refine until_t0 13 (v := ?_) rfl (by kernel_rfl) (fun _ _ _ h => h) (Or.inl ⟨by rfl, ?_⟩) (by assumption) (fun h => by first | assumption | exact absurd (h : true = false) (by decide)) ?_
          rotate_left
          · intro w hSw; (try dsimp only at hSw); (try go_simp); (try with_reducible rfl)
          try simp only [Act.put, List.setIfInBounds_toArray, List.set_cons_zero, List.set_cons_succ]
          refine until_t0 14 (v := ?_) rfl (by kernel_rfl) (fun _ _ _ h => h) (Or.inl ⟨by rfl, ?_⟩) (by assumption) (fun h => by first | assumption | exact absurd (h : true = false) (by decide)) ?_
          rotate_left
          · intro w hSw; (try dsimp only at hSw); (try go_simp); (try with_reducible rfl)
          try simp only [Act.put, List.setIfInBounds_toArray, List.set_cons_zero, List.set_cons_succ]
          refine until_t1 15 (v := ?_) rfl (by kernel_rfl) (fun _ _ _ h => h) (Or.inl ⟨by rfl, ?_⟩) (by assumption) (fun h => by first | assumption | exact absurd (h : true = false) (by decide)) ?_
          rotate_left
          · intro w hSw; (try dsimp only at hSw); (try go_simp); (try with_reducible rfl)
          try simp only [Act.put, List.setIfInBounds_toArray, List.set_cons_zero, List.set_cons_succ]
          refine until_t0 16 (v := ?_) rfl (by kernel_rfl) (fun _ _ _ h => h) (Or.inl ⟨by rfl, ?_⟩) (by assumption) (fun h => by first | assumption | exact absurd (h : true = false) (by decide)) ?_
          rotate_left
          · intro w hSw; (try dsimp only at hSw); (try go_simp); (try with_reducible rfl)
          try simp only [Act.put, List.setIfInBounds_toArray, List.set_cons_zero, List.set_cons_succ]
          refine until_t0 17 (v := ?_) rfl (by kernel_rfl) (fun _ _ _ h => h) (Or.inl ⟨by rfl, ?_⟩) (by assumption) (fun h => by first | assumption | exact absurd (h : true = false) (by decide)) ?_
          rotate_left
          · intro w hSw; (try dsimp only at hSw); (try go_simp); (try with_reducible rfl)
          try simp only [Act.put, List.setIfInBounds_toArray, List.set_cons_zero, List.set_cons_succ]
          refine until_t0 18 (v := ?_) rfl (by kernel_rfl) (fun _ _ _ h => h) (Or.inl ⟨by rfl, ?_⟩) (by assumption) (fun h => by first | assumption | exact absurd (h : true = false) (by decide)) ?_
          rotate_left
          · intro w hSw; (try dsimp only at hSw); (try go_simp); (try with_reducible rfl)
          try simp only [Act.put, List.setIfInBounds_toArray, List.set_cons_zero, List.set_cons_succ]
          refine until_t1 19 (v := ?_) rfl (by kernel_rfl) (fun _ _ _ h => h) (Or.inl ⟨by rfl, ?_⟩) (by assumption) (fun h => by first | assumption | exact absurd (h : true = false) (by decide)) ?_
          rotate_left
          · intro w hSw; (try dsimp only at hSw); (try go_simp); (try with_reducible rfl)
          try simp only [Act.put, List.setIfInBounds_toArray, List.set_cons_zero, List.set_cons_succ]
          refine until_t0 20 (v := ?_) rfl (by kernel_rfl) (fun _ _ _ h => h) (Or.inl ⟨by rfl, ?_⟩) (by assumption) (fun h => by first | assumption | exact absurd (h : true = false) (by decide)) ?_
          rotate_left
          · intro w hSw; (try dsimp only at hSw); (try go_simp); (try with_reducible rfl)
          try simp only [Act.put, List.setIfInBounds_toArray, List.set_cons_zero, List.set_cons_succ]
          refine until_t0 21 (v := ?_) rfl (by kernel_rfl) (fun _ _ _ h => h) (Or.inl ⟨by rfl, ?_⟩) (by assumption) (fun h => by first | assumption | exact absurd (h : true = false) (by decide)) ?_
          rotate_left
          · intro w hSw; (try dsimp only at hSw); (try go_simp); (try with_reducible rfl)
          try simp only [Act.put, List.setIfInBounds_toArray, List.set_cons_zero, List.set_cons_succ]
          refine until_t0 22 (v := ?_) rfl (by kernel_rfl) (fun _ _ _ h => h) (Or.inl ⟨by rfl, ?_⟩) (by assumption) (fun h => by first | assumption | exact absurd (h : true = false) (by decide)) ?_
          rotate_left
          · intro w hSw; (try dsimp only at hSw); (try go_simp); (try with_reducible rfl)
          try simp only [Act.put, List.setIfInBounds_toArray, List.set_cons_zero, List.set_cons_succ]
          refine until_t1 23 (v := ?_) rfl (by kernel_rfl) (fun _ _ _ h => h) (Or.inl ⟨by rfl, ?_⟩) (by assumption) (fun h => by first | assumption | exact absurd (h : true = false) (by decide)) ?_
          rotate_left
          · intro w hSw; (try dsimp only at hSw); (try go_simp); (try with_reducible rfl)
          try simp only [Act.put, List.setIfInBounds_toArray, List.set_cons_zero, List.set_cons_succ]
          refine until_only (i := 24) rfl (by kernel_rfl) (by rfl) ?_
          intro K' hK
          go_simp
          go_at_call 58
          refine (quarter_any _ _ _ _ _).mono ?_
          rintro e w' ⟨rfl, rfl⟩
          go_wp2_with fail
          refine hK _ _ s0 (fun _ => s1) ?_
          clear hK
          refine until_t0 25 (v := ?_) rfl (by kernel_rfl) (fun _ _ _ h => h) (Or.inl ⟨by rfl, ?_⟩) (by assumption) (fun h => by first | assumption | exact absurd (h : true = false) (by decide)) ?_
          rotate_left
          · intro w hSw; (try dsimp only at hSw); (try go_simp); (try with_reducible rfl)
          try simp only [Act.put, List.setIfInBounds_toArray, List.set_cons_zero, List.set_cons_succ]
          refine until_t0 26 (v := ?_) rfl (by kernel_rfl) (fun _ _ _ h => h) (Or.inl ⟨by rfl, ?_⟩) (by assumption) (fun h => by first | assumption | exact absurd (h : true = false) (by decide)) ?_
          rotate_left
          · intro w hSw; (try dsimp only at hSw); (try go_simp); (try with_reducible rfl)
          try simp only [Act.put, List.setIfInBounds_toArray, List.set_cons_zero, List.set_cons_succ]
          refine until_t0 27 (v := ?_) rfl (by kernel_rfl) (fun _ _ _ h => h) (Or.inl ⟨by rfl, ?_⟩) (by assumption) (fun h => by first | assumption | exact absurd (h : true = false) (by decide)) ?_
          rotate_left
          · intro w hSw; (try dsimp only at hSw); (try go_simp); (try with_reducible rfl)
          try simp only [Act.put, List.setIfInBounds_toArray, List.set_cons_zero, List.set_cons_succ]
          refine until_t0 28 (v := ?_) rfl (by kernel_rfl) (fun _ _ _ h => h) (Or.inl ⟨by rfl, ?_⟩) (by assumption) (fun h => by first | assumption | exact absurd (h : true = false) (by decide)) ?_
          rotate_left
          · intro w hSw; (try dsimp only at hSw); (try go_simp); (try with_reducible rfl)
          try simp only [Act.put, List.setIfInBounds_toArray, List.set_cons_zero, List.set_cons_succ]
          refine until_t0 29 (v := ?_) rfl (by kernel_rfl) (fun _ _ _ h => h) (Or.inl ⟨by rfl, ?_⟩) (by assumption) (fun h => by first | assumption | exact absurd (h : true = false) (by decide)) ?_
          rotate_left
          · intro w hSw; (try dsimp only at hSw); (try go_simp); (try with_reducible rfl)
          try simp only [Act.put, List.setIfInBounds_toArray, List.set_cons_zero, List.set_cons_succ]
          refine until_t0 30 (v := ?_) rfl (by kernel_rfl) (fun _ _ _ h => h) (Or.inl ⟨by rfl, ?_⟩) (by assumption) (fun h => by first | assumption | exact absurd (h : true = false) (by decide)) ?_
          rotate_left
          · intro w hSw; (try dsimp only at hSw); (try go_simp); (try with_reducible rfl)
          try simp only [Act.put, List.setIfInBounds_toArray, List.set_cons_zero, List.set_cons_succ]
          refine until_only (i := 31) rfl (by kernel_rfl) (by rfl) ?_
          intro K' hK
          go_simp
          refine hK _ _ (At.four (hp.setCell_other hne _).drew) (fun h => absurd (h : true = false) (by decide)) ?_
          clear hK s0 s1 s1'
          have hp := (hp.setCell_other hne (.int .u32 (wd (qr a b c d).1)) (a := ⟨w.heap.size, i, none⟩)).drew
          have s0 := At.four hp
          refine until_t0 32 (v := ?_) rfl (by kernel_rfl) (fun _ _ _ h => h) (Or.inl ⟨by rfl, ?_⟩) (by assumption) (fun h => by first | assumption | exact absurd (h : true = false) (by decide)) ?_
          rotate_left
          · intro w hSw; (try dsimp only at hSw); (try go_simp); (try with_reducible rfl)
          try simp only [Act.put, List.setIfInBounds_toArray, List.set_cons_zero, List.set_cons_succ]
          refine until_only (i := 33) rfl (by kernel_rfl) (by rfl) ?_
          intro K' hK
          go_simp
          refine hK _ _ (At.four (hp.setCell_other hne _)) (fun h => absurd (h : true = false) (by decide)) ?_
          clear hK s0
          have hp := (hp.setCell_other hne (.int .u32 (wd (qr a b c d).2.1)) (a := ⟨w.heap.size, j, none⟩))
          have s0 := At.four hp
          refine until_t0 34 (v := ?_) rfl (by kernel_rfl) (fun _ _ _ h => h) (Or.inl ⟨by rfl, ?_⟩) (by assumption) (fun h => by first | assumption | exact absurd (h : true = false) (by decide)) ?_
          rotate_left
          · intro w hSw; (try dsimp only at hSw); (try go_simp); (try with_reducible rfl)
          try simp only [Act.put, List.setIfInBounds_toArray, List.set_cons_zero, List.set_cons_succ]
          refine until_only (i := 35) rfl (by kernel_rfl) (by rfl) ?_
          intro K' hK
          go_simp
          refine hK _ _ (At.four (hp.setCell_other hne _)) (fun h => absurd (h : true = false) (by decide)) ?_
          clear hK s0
          have hp := (hp.setCell_other hne (.int .u32 (wd (qr a b c d).2.2.1)) (a := ⟨w.heap.size, l, none⟩))
          have s0 := At.four hp
          refine until_t0 36 (v := ?_) rfl (by kernel_rfl) (fun _ _ _ h => h) (Or.inl ⟨by rfl, ?_⟩) (by assumption) (fun h => by first | assumption | exact absurd (h : true = false) (by decide)) ?_
          rotate_left
          · intro w hSw; (try dsimp only at hSw); (try go_simp); (try with_reducible rfl)
          try simp only [Act.put, List.setIfInBounds_toArray, List.set_cons_zero, List.set_cons_succ]
          refine until_only (i := 37) rfl (by kernel_rfl) (by rfl) ?_
          intro K' hK
          go_simp
          refine hK _ _ (At.four (hp.setCell_other hne _)) (fun h => absurd (h : true = false) (by decide)) ?_
          clear hK s0
          have hp := (hp.setCell_other hne (.int .u32 (wd (qr a b c d).2.2.2)) (a := ⟨w.heap.size, m, none⟩))
          refine until_done (by kernel_rfl) ?_ _
          go_wp2_with fail
          refine ⟨⟨q + 1, by omega, by simp, ?_, ?_, ?_⟩, by simp only [intOf]; omega⟩
          · obtain ⟨ha, hb, hc, hd⟩ := HA.out
            rw [HPS.out]
            unfold quarterAt
            dsimp only
            rw [← ha, ← hb, ← hc, ← hd, ← wcells_set, ← wcells_set, ← wcells_set, ← wcells_set]
            exact ((((h1.setCell i _).setCell j _).setCell l _).setCell m _).drew
          · have hb : w.heap.size + 1 ≠ w.heap.size := by omega
            exact ((((h2.setCell_other hb _).setCell_other hb _).setCell_other hb _).setCell_other hb _).drew
          · refine hf.new (S := [w.heap.size]) ?_ (by simp)
            exact ((((Fr.setCell _ _ _ _ (.inl (by simp))).trans (Fr.setCell _ _ _ _ (.inl (by simp)))).trans (Fr.setCell _ _ _ _ (.inl (by simp)))).trans (Fr.setCell _ _ _ _ (.inl (by simp)))).trans (Fr.drew _ _)
        · obtain rfl : q = 8 := by omega
          go_wp2_with fail
          exact ⟨⟨k + 1, by omega, by simp, h1, h2, hf⟩, by simp only [intOf]; omega⟩
    · obtain rfl : k = 10 := by omega
      have hsz : (Tryd.prog.info? 56).map (·.size) = some (wcells (doubles s 10)).toArray.size := by
        rw [List.size_toArray]
        simp only [wcells, List.length_map, doubles_len, hs]
        kernel_rfl
      have hall : (wcells (doubles s 10)).toArray.all (·.oneCell') = true := all_oneCell_toArray (by intro v hv; obtain ⟨x, _, rfl⟩ := List.mem_map.1 hv; rfl)
      have hold : (List.replicate 16 (Value.int IntKind.u32 0)).toArray.size = (wcells (doubles s 10)).toArray.size := by simp [wcells, doubles_len, hs]
      go_wp2_with (first
        | refine wpList_load_row rfl _ _ rfl _ rfl _ _ _ _ h1.out Tryd.underlying56 rfl hsz ?_
        | refine wpList_store_row rfl _ _ _ rfl _ _ rfl rfl _ _ h2.out hsz hold hall ?_
        | fail)
      have h2' : At (wr.setRow (w.heap.size + 1) (wcells (doubles s 10)).toArray) (w.heap.size + 1) 56 (wcells (doubles s 10)) := by
        have := h2.setRow (wcells (doubles s 10)).toArray
        rwa [List.toList_toArray] at this
      refine ⟨rfl, _, ?_, rfl, hf.new (S := [w.heap.size + 1]) (Fr.setRow _ _ _ _ (.inl (by simp))) (by simp)⟩
      refine results_cell_row (p := 2) (ty := 56) (by rfl) _ _ (w.heap.size + 1) 56 (wcells (doubles s 10)).toArray (0, 0) _ ?_ h2'.out Tryd.underlying56 rfl hsz
      simp only [Act.put, List.setIfInBounds_toArray, List.set_cons_zero, List.set_cons_succ, Array.getD_eq_getD_getElem?, List.getElem?_toArray, List.getElem?_cons_succ, List.getElem?_cons_zero, Option.getD_some]
end Go.Proofs.YtichgiecohhmgaaDoor
