/- casketref4: rounds. -/
import Derived.Test.YtichgiecohhmgaaDoorRef4B
import Derived.Test.YtichgiecohhmgaaDoorUntil
namespace Go.Proofs.YtichgiecohhmgaaDoor
open Go.RowKit Go.Lib Base Go.Joins
set_option linter.unusedVariables false
set_option linter.unusedSimpArgs false

def tabPlaces : List Int := tabRounds
/-- The table 'places' lies in its block. -/
def Places (w : World) : Prop := w.rangeAt 1 0 (tabPlaces.map fun n => Value.int .i64 n)
theorem Places.keep {S : List Nat} {w w' : World} (h : Places w) (hf : Fr S w w') (hS : 1 ∉ S) : Places w' := by
  intro j v hj
  have hc := h j v hj
  rw [← hc]
  have hb : 1 < w.heap.size := by
    rcases Nat.lt_or_ge 1 w.heap.size with h' | h'
    · exact h'
    · simp only [World.cell?, Array.getElem?_eq_none h'] at hc; cases hc
  simp only [World.cell?]
  rw [hf.block _ hb hS]

theorem tab_at : ∀ q, q < 8 → tabPlaces[4 * q]? = some ((quads.getD q (0, 0, 0, 0)).1 : Int) ∧ tabPlaces[4 * q + 1]? = some ((quads.getD q (0, 0, 0, 0)).2.1 : Int) ∧ tabPlaces[4 * q + 2]? = some ((quads.getD q (0, 0, 0, 0)).2.2.1 : Int) ∧ tabPlaces[4 * q + 3]? = some ((quads.getD q (0, 0, 0, 0)).2.2.2 : Int) := by decide
theorem Places.at {w : World} (h : Places w) {j : Nat} {x : Int} (hj : tabPlaces[j]? = some x) : w.cell? ⟨1, j, none⟩ = some (.int .i64 x) := by
  have := h j (.int .i64 x) (by rw [List.getElem?_map, hj]; rfl)
  simpa using this
theorem icells_get (s : List UInt32) (i : Nat) (h : i < s.length) : (icells s)[i]? = some (.int .i64 (wd (s.getD i 0))) := by
  simp [icells, List.getD, h]
theorem icells_set (s : List UInt32) (i : Nat) (x : UInt32) : (icells s).set i (.int .i64 (wd x)) = icells (s.set i x) := by
  simp [icells, List.map_set]

theorem cell_fr {w w' : World} {a : Addr} {v : Value} (f : Fr [] w w') (h : w.cell? a = some v) : w'.cell? a = some v := by
  have hb : a.block < w.heap.size := by
    rcases Nat.lt_or_ge a.block w.heap.size with h' | h'
    · exact h'
    · simp only [World.cell?, Array.getElem?_eq_none h'] at h; cases h
  rw [← h]
  simp only [World.cell?]
  rw [f.block _ hb (by simp)]

theorem s4_step {wr W w' : World} {g i j l m : Nat} {a b c d : Value} {S : List Nat} (gl : g < wr.heap.size)
    (h : (W.cell? ⟨g, i, none⟩ = some a ∧ W.cell? ⟨g, j, none⟩ = some b ∧ W.cell? ⟨g, l, none⟩ = some c ∧ W.cell? ⟨g, m, none⟩ = some d) ∧ Fr [] wr W) (f : Fr S W w') (hS : ∀ x, x ∈ S → wr.heap.size ≤ x) :
    (w'.cell? ⟨g, i, none⟩ = some a ∧ w'.cell? ⟨g, j, none⟩ = some b ∧ w'.cell? ⟨g, l, none⟩ = some c ∧ w'.cell? ⟨g, m, none⟩ = some d) ∧ Fr [] wr w' := by
  have hb : w'.heap[g]? = W.heap[g]? := f.block g (Nat.lt_of_lt_of_le gl h.2.size) (fun hx => by have := hS g hx; omega)
  obtain ⟨⟨h1, h2, h3, h4⟩, hf⟩ := h
  refine ⟨⟨?_, ?_, ?_, ?_⟩, hf.new f hS⟩
  · rw [← h1]; simp only [World.cell?, hb]
  · rw [← h2]; simp only [World.cell?, hb]
  · rw [← h3]; simp only [World.cell?, hb]
  · rw [← h4]; simp only [World.cell?, hb]

set_option maxRecDepth 100000 in
set_option maxHeartbeats 1000000 in
theorem rounds_any (s : List UInt32) (hs : s.length = 16) (v0 : Value) (base : Nat) (w : World) (h4 : w.ownsRow base 3 1 v0 16 (icells s)) (hb : base ≤ w.heap.size) (ht : Places w) :
    Calls Tryd.prog 65 #[v0] w fun e w' => ∃ v, e = .returned v ∧ w'.ownsRow w.heap.size 3 1 v 16 (icells (doubles s 10)) ∧ Fr [] w w' := by
  obtain ⟨iI, hiI, hz0, hz1, hz2⟩ := info_parts (P := Tryd.prog) (show (Tryd.prog.info? 3).map (fun i => (i.zero, i.size, i.bytes)) = some (some (.int .i64 0), 1, 8) by kernel_rfl)
  go_enter Tryd.func65, Tryd.ntmps65
  obtain ⟨g4, c4, rfl⟩ := ownsRow_form h4 (by omega)
  go_wp2_with (first
    | (at_builtin; refine wpList_append_own _ rfl _ _ _ rfl w.heap.size 3 iI (.int .i64 0) 1 8 Tryd.underlying107 hiI hz0 hz1 hz2 rfl (by decide) _ 0 _ rfl (World.ownsRow_nil _ _ _ _) ⟨g4, 0, none⟩ 16 c4 (icells s) rfl (by rw [icells_len]; omega) (h4.cells rfl) (icells_one _) (by simp [maxLen]) (by omega) (by simp) ?_; intro v2 w2 o2 gr2 _)
    | fail)
  have f2 : Fr [] w w2 := by
    have := Fr.ofGrown (S := []) gr2 (by intro q hq; have hq' : none = some q := hq; cases hq')
    exact this
  have o2 : w2.ownsRow w.heap.size 3 1 v2 16 (icells s) := o2
  obtain ⟨g, cap, rfl⟩ := ownsRow_form o2 (by omega)
  have hgb : w.heap.size ≤ g := (o2.lt g rfl).1
  clear gr2
  go_wp2_with fail
  go_loopw [4] (fun v wr => ∃ k : Nat, k ≤ 10 ∧ v = .int .i64 k ∧ wr.ownsRow w.heap.size 3 1 (.slice (some ⟨g, 0, none⟩) 16 cap) 16 (icells (doubles s k)) ∧ Fr [] w wr) (fun v _ => 10 - (intOf v).toNat)
  case atStart => exact ⟨0, by omega, rfl, o2, f2⟩
  case round =>
    obtain ⟨k, hk, rfl, h1, hf⟩ := hrel
    by_cases hlt : k < 10
    · go_wp2_with fail
      go_loopw [5] (fun v wr => ∃ q : Nat, q ≤ 8 ∧ v = .int .i64 (4 * q : Nat) ∧ wr.ownsRow w.heap.size 3 1 (.slice (some ⟨g, 0, none⟩) 16 cap) 16 (icells (partRound (doubles s k) q)) ∧ Fr [] w wr) (fun v _ => 32 - (intOf v).toNat)
      case atStart => exact ⟨0, by omega, rfl, h1, hf⟩
      case round =>
        obtain ⟨q, hq, rfl, h1, hf⟩ := hrel
        by_cases hlt2 : q < 8
        · have hok := quads_ok q hlt2
          have HPS := Lib.hid (partRound_succ (doubles s k) q hlt2)
          have hln : (partRound (doubles s k) q).length = 16 := by rw [partRound_len, doubles_len, hs]
          obtain ⟨tb0, tb1, tb2, tb3⟩ := tab_at q hlt2
          have htw := ht.keep hf (by simp)
          have q0 := htw.at tb0
          have q1 := htw.at tb1
          have q2 := htw.at tb2
          have q3 := htw.at tb3
          clear tb0 tb1 tb2 tb3 htw
          generalize quads.getD q (0, 0, 0, 0) = qd at hok HPS q0 q1 q2 q3
          obtain ⟨i, j, l, m⟩ := qd
          dsimp only at hok q0 q1 q2 q3
          obtain ⟨⟨i1, j1, l1, m1⟩, ij, il, im, jl, jm, lm⟩ := hok
          generalize partRound (doubles s k) q = st at h1 hln HPS
          have ci := h1.cellAt i (by omega)
          have cj := h1.cellAt j (by omega)
          have cl := h1.cellAt l (by omega)
          have cm := h1.cellAt m (by omega)
          rw [icells_get _ _ (by omega)] at ci cj cl cm
          have fi := h1.frozenAt i
          have fj := h1.frozenAt j
          have fl := h1.frozenAt l
          have fm := h1.frozenAt m
          obtain ⟨a, ha⟩ : ∃ a, a = st.getD i 0 := ⟨_, rfl⟩
          obtain ⟨b, hb⟩ : ∃ a, a = st.getD j 0 := ⟨_, rfl⟩
          obtain ⟨c, hc⟩ : ∃ a, a = st.getD l 0 := ⟨_, rfl⟩
          obtain ⟨d, hd⟩ : ∃ a, a = st.getD m 0 := ⟨_, rfl⟩
          rw [← ha] at ci
          rw [← hb] at cj
          rw [← hc] at cl
          rw [← hd] at cm
          have HA := Lib.hid (And.intro ha (And.intro hb (And.intro hc hd)))
          clear ha hb hc hd
          have i16 : (i : Int) < 16 := by omega
          have j16 : (j : Int) < 16 := by omega
          have l16 : (l : Int) < 16 := by omega
          have m16 : (m : Int) < 16 := by omega
          have w0 : (4 * (q : Int)) < 32 := by omega
          have w1 : (4 * (q : Int)) + 1 < 32 := by omega
          have w2 : (4 * (q : Int)) + 2 < 32 := by omega
          have w3 : (4 * (q : Int)) + 3 < 32 := by omega
          have ji := Ne.symm ij; have li := Ne.symm il; have mi := Ne.symm im; have lj := Ne.symm jl; have mj := Ne.symm jm; have ml := Ne.symm lm
          go_wp2_with fail
          have gl : g < wr.heap.size := (h1.lt g rfl).2
          have gn : g ≠ wr.heap.size := by omega
          refine wp_region_until (fun w' => w'.cell? ⟨g, i, none⟩ = some (.int .i64 (wd a)) ∧ w'.cell? ⟨g, j, none⟩ = some (.int .i64 (wd b)) ∧ w'.cell? ⟨g, l, none⟩ = some (.int .i64 (wd c)) ∧ w'.cell? ⟨g, m, none⟩ = some (.int .i64 (wd d))) (fun _ => True) 1000 (by rfl) ?_
          have hT : True := trivial
          have s0 : _ ∧ _ ∧ _ ∧ _ := ⟨ci, cj, cl, cm⟩
          refine until_t0 0 (v := ?_) rfl (by kernel_rfl) (fun _ _ _ h => h) (Or.inl ⟨by rfl, ?_⟩) (by assumption) (fun h => by first | assumption | exact absurd (h : true = false) (by decide)) ?_
          rotate_left
          · intro w hSw; (try dsimp only at hSw); (try go_simp); (try with_reducible rfl)
          try simp only [Act.put, List.setIfInBounds_toArray, List.set_cons_zero, List.set_cons_succ]
          refine until_t0 1 (v := ?_) rfl (by kernel_rfl) (fun _ _ _ h => h) (Or.inl ⟨by rfl, ?_⟩) (by assumption) (fun h => by first | assumption | exact absurd (h : true = false) (by decide)) ?_
          rotate_left
          · intro w hSw; (try dsimp only at hSw); (try go_simp); (try with_reducible rfl)
          try simp only [Act.put, List.setIfInBounds_toArray, List.set_cons_zero, List.set_cons_succ]
          refine until_t0 2 (v := ?_) rfl (by kernel_rfl) (fun _ _ _ h => h) (Or.inl ⟨by rfl, ?_⟩) (by assumption) (fun h => by first | assumption | exact absurd (h : true = false) (by decide)) ?_
          rotate_left
          · intro w hSw; (try dsimp only at hSw); (try go_simp); (try with_reducible rfl)
          try simp only [Act.put, List.setIfInBounds_toArray, List.set_cons_zero, List.set_cons_succ]
          refine until_t0 3 (v := ?_) rfl (by kernel_rfl) (fun _ _ _ h => h) (Or.inl ⟨by rfl, ?_⟩) (by assumption) (fun h => by first | assumption | exact absurd (h : true = false) (by decide)) ?_
          rotate_left
          · intro w hSw; (try dsimp only at hSw); (try go_simp); (try with_reducible rfl)
          try simp only [Act.put, List.setIfInBounds_toArray, List.set_cons_zero, List.set_cons_succ]
          refine until_t0 4 (v := ?_) rfl (by kernel_rfl) (fun _ _ _ h => h) (Or.inl ⟨by rfl, ?_⟩) (by assumption) (fun h => by first | assumption | exact absurd (h : true = false) (by decide)) ?_
          rotate_left
          · intro w hSw; (try dsimp only at hSw); (try go_simp); (try with_reducible rfl)
          try simp only [Act.put, List.setIfInBounds_toArray, List.set_cons_zero, List.set_cons_succ]
          refine until_t0 5 (v := ?_) rfl (by kernel_rfl) (fun _ _ _ h => h) (Or.inl ⟨by rfl, ?_⟩) (by assumption) (fun h => by first | assumption | exact absurd (h : true = false) (by decide)) ?_
          rotate_left
          · intro w hSw; (try dsimp only at hSw); (try go_simp); (try with_reducible rfl)
          try simp only [Act.put, List.setIfInBounds_toArray, List.set_cons_zero, List.set_cons_succ]
          refine until_t0 6 (v := ?_) rfl (by kernel_rfl) (fun _ _ _ h => h) (Or.inl ⟨by rfl, ?_⟩) (by assumption) (fun h => by first | assumption | exact absurd (h : true = false) (by decide)) ?_
          rotate_left
          · intro w hSw; (try dsimp only at hSw); (try go_simp); (try with_reducible rfl)
          try simp only [Act.put, List.setIfInBounds_toArray, List.set_cons_zero, List.set_cons_succ]
          refine until_t0 7 (v := ?_) rfl (by kernel_rfl) (fun _ _ _ h => h) (Or.inl ⟨by rfl, ?_⟩) (by assumption) (fun h => by first | assumption | exact absurd (h : true = false) (by decide)) ?_
          rotate_left
          · intro w hSw; (try dsimp only at hSw); (try go_simp); (try with_reducible rfl)
          try simp only [Act.put, List.setIfInBounds_toArray, List.set_cons_zero, List.set_cons_succ]
          refine until_t0 8 (v := ?_) rfl (by kernel_rfl) (fun _ _ _ h => h) (Or.inl ⟨by rfl, ?_⟩) (by assumption) (fun h => by first | assumption | exact absurd (h : true = false) (by decide)) ?_
          rotate_left
          · intro w hSw; (try dsimp only at hSw); (try go_simp); (try with_reducible rfl)
          try simp only [Act.put, List.setIfInBounds_toArray, List.set_cons_zero, List.set_cons_succ]
          refine until_t0 9 (v := ?_) rfl (by kernel_rfl) (fun _ _ _ h => h) (Or.inl ⟨by rfl, ?_⟩) (by assumption) (fun h => by first | assumption | exact absurd (h : true = false) (by decide)) ?_
          rotate_left
          · intro w hSw; (try dsimp only at hSw); (try go_simp); (try with_reducible rfl)
          try simp only [Act.put, List.setIfInBounds_toArray, List.set_cons_zero, List.set_cons_succ]
          refine until_t0 10 (v := ?_) rfl (by kernel_rfl) (fun _ _ _ h => h) (Or.inl ⟨by rfl, ?_⟩) (by assumption) (fun h => by first | assumption | exact absurd (h : true = false) (by decide)) ?_
          rotate_left
          · intro w hSw; (try dsimp only at hSw); (try go_simp); (try with_reducible rfl)
          try simp only [Act.put, List.setIfInBounds_toArray, List.set_cons_zero, List.set_cons_succ]
          refine until_t0 11 (v := ?_) rfl (by kernel_rfl) (fun _ _ _ h => h) (Or.inl ⟨by rfl, ?_⟩) (by assumption) (fun h => by first | assumption | exact absurd (h : true = false) (by decide)) ?_
          rotate_left
          · intro w hSw; (try dsimp only at hSw); (try go_simp); (try with_reducible rfl)
          try simp only [Act.put, List.setIfInBounds_toArray, List.set_cons_zero, List.set_cons_succ]
          refine until_t0 12 (v := ?_) rfl (by kernel_rfl) (fun _ _ _ h => h) (Or.inl ⟨by rfl, ?_⟩) (by assumption) (fun h => by first | assumption | exact absurd (h : true = false) (by decide)) ?_
          rotate_left
          · intro w hSw; (try dsimp only at hSw); (try go_simp); (try with_reducible rfl)
          try simp only [Act.put, List.setIfInBounds_toArray, List.set_cons_zero, List.set_cons_succ]
          refine until_t0 13 (v := ?_) rfl (by kernel_rfl) (fun _ _ _ h => h) (Or.inl ⟨by rfl, ?_⟩) (by assumption) (fun h => by first | assumption | exact absurd (h : true = false) (by decide)) ?_
          rotate_left
          · intro w hSw; (try dsimp only at hSw); (try go_simp); (try with_reducible rfl)
          try simp only [Act.put, List.setIfInBounds_toArray, List.set_cons_zero, List.set_cons_succ]
          refine until_t0 14 (v := ?_) rfl (by kernel_rfl) (fun _ _ _ h => h) (Or.inl ⟨by rfl, ?_⟩) (by assumption) (fun h => by first | assumption | exact absurd (h : true = false) (by decide)) ?_
          rotate_left
          · intro w hSw; (try dsimp only at hSw); (try go_simp); (try with_reducible rfl)
          try simp only [Act.put, List.setIfInBounds_toArray, List.set_cons_zero, List.set_cons_succ]
          refine until_t0 15 (v := ?_) rfl (by kernel_rfl) (fun _ _ _ h => h) (Or.inl ⟨by rfl, ?_⟩) (by assumption) (fun h => by first | assumption | exact absurd (h : true = false) (by decide)) ?_
          rotate_left
          · intro w hSw; (try dsimp only at hSw); (try go_simp); (try with_reducible rfl)
          try simp only [Act.put, List.setIfInBounds_toArray, List.set_cons_zero, List.set_cons_succ]
          refine until_t0 16 (v := ?_) rfl (by kernel_rfl) (fun _ _ _ h => h) (Or.inl ⟨by rfl, ?_⟩) (by assumption) (fun h => by first | assumption | exact absurd (h : true = false) (by decide)) ?_
          rotate_left
          · intro w hSw; (try dsimp only at hSw); (try go_simp); (try with_reducible rfl)
          try simp only [Act.put, List.setIfInBounds_toArray, List.set_cons_zero, List.set_cons_succ]
          refine until_two (i := 17) (j := 18) rfl rfl (by kernel_rfl) (by rfl) (by rfl) ?_ ?_
          · intro K' hK
            go_simp
            go_at_call 81
            refine (refquarter_any _ _ _ _ _).mono ?_
            rintro e w' ⟨rfl, f3⟩
            go_wp2_with fail
            have fw : Fr [] wr w' := (Fr.drew _ _).trans f3
            refine hK _ _ ⟨cell_fr fw ci, cell_fr fw cj, cell_fr fw cl, cell_fr fw cm⟩ (fun _ => trivial) ?_
            clear hK
            refine until_only (i := 18) rfl (by kernel_rfl) (by rfl) ?_
            intro K' hK
            go_simp
            have A3 := At.alloc_new w' 125 #[Value.int .i64 0, Value.int .i64 0, Value.int .i64 0, Value.int .i64 0]
            have hp := fw.size
            have fw : Fr [] wr (w'.alloc (.cells #[Value.int .i64 0, Value.int .i64 0, Value.int .i64 0, Value.int .i64 0] 125)) := fw.trans (Fr.alloc _ _ _)
            obtain ⟨W3, hW3⟩ : ∃ W3, W3 = w'.alloc (.cells #[Value.int .i64 0, Value.int .i64 0, Value.int .i64 0, Value.int .i64 0] 125) := ⟨_, rfl⟩
            rw [← hW3] at A3 fw ⊢
            clear hW3
            generalize w'.heap.size = p at A3 hp ⊢
            refine hK _ _ ⟨cell_fr fw ci, cell_fr fw cj, cell_fr fw cl, cell_fr fw cm⟩ (fun _ => trivial) ?_
            clear hK
            refine until_only (i := 19) rfl (by kernel_rfl) (by rfl) ?_
            intro K' hK
            refine wp_store_row _ _ _ rfl p #[Value.int .i64 (wd (qr a b c d).1), Value.int .i64 (wd (qr a b c d).2.1), Value.int .i64 (wd (qr a b c d).2.2.1), Value.int .i64 (wd (qr a b c d).2.2.2)] rfl rfl 125 _ A3.out (by kernel_rfl) rfl (all_oneCell_toArray (by intro v hv; simp only [List.mem_cons, List.not_mem_nil, or_false] at hv; rcases hv with rfl | rfl | rfl | rfl <;> rfl)) ?_
            have A4 := A3.setRow #[Value.int .i64 (wd (qr a b c d).1), Value.int .i64 (wd (qr a b c d).2.1), Value.int .i64 (wd (qr a b c d).2.2.1), Value.int .i64 (wd (qr a b c d).2.2.2)]
            have fw : Fr [] wr (W3.setRow p #[Value.int .i64 (wd (qr a b c d).1), Value.int .i64 (wd (qr a b c d).2.1), Value.int .i64 (wd (qr a b c d).2.2.1), Value.int .i64 (wd (qr a b c d).2.2.2)]) := fw.new (S := [p]) (Fr.setRow _ _ _ _ (.inl (by simp))) (by simp; exact hp)
            obtain ⟨V, hV⟩ : ∃ V, V = W3.setRow p #[Value.int .i64 (wd (qr a b c d).1), Value.int .i64 (wd (qr a b c d).2.1), Value.int .i64 (wd (qr a b c d).2.2.1), Value.int .i64 (wd (qr a b c d).2.2.2)] := ⟨_, rfl⟩
            rw [← hV] at A4 fw ⊢
            refine hK _ _ ⟨cell_fr fw ci, cell_fr fw cj, cell_fr fw cl, cell_fr fw cm⟩ (fun _ => trivial) ?_
            clear hK hV A3
            refine until_done (by kernel_rfl) ?_ _
            have h1 := own_fr h1 fw (by simp)
            have ci := cell_fr fw ci
            have cj := cell_fr fw cj
            have cl := cell_fr fw cl
            have cm := cell_fr fw cm
            have fi := h1.frozenAt i
            have fj := h1.frozenAt j
            have fl := h1.frozenAt l
            have fm := h1.frozenAt m
            have p0 := A4.cell 0
            have p1 := A4.cell 1
            have p2 := A4.cell 2
            have p3 := A4.cell 3
            simp at p0 p1 p2 p3
            have hpg : p ≠ g := by omega
            have hgp : g ≠ p := Ne.symm hpg
            go_wp2_with fail
            refine ⟨⟨q + 1, by omega, by simp; omega, ?_, ?_⟩, by simp only [intOf]; omega⟩
            · obtain ⟨ha, hb, hc, hd⟩ := HA.out
              rw [HPS.out]
              unfold quarterAt
              dsimp only
              rw [← ha, ← hb, ← hc, ← hd, ← icells_set, ← icells_set, ← icells_set, ← icells_set]
              exact ((((h1.stored i _).1.stored j _).1.stored l _).1.stored m _).1
            · exact (hf.trans fw).new (S := [g]) ((((Fr.setCell _ _ _ _ (.inl (by simp))).trans (Fr.setCell _ _ _ _ (.inl (by simp)))).trans (Fr.setCell _ _ _ _ (.inl (by simp)))).trans (Fr.setCell _ _ _ _ (.inl (by simp)))) (by simp; exact hgb)
          · intro K' hK
            go_simp
            have A3 := At.alloc_new wr.drew 125 #[Value.int .i64 0, Value.int .i64 0, Value.int .i64 0, Value.int .i64 0]
            have fw : Fr [] wr (wr.drew.alloc (.cells #[Value.int .i64 0, Value.int .i64 0, Value.int .i64 0, Value.int .i64 0] 125)) := (Fr.drew _ _).trans (Fr.alloc _ _ _)
            have hp : wr.heap.size ≤ wr.heap.size := Nat.le_refl _
            refine hK _ _ ⟨cell_fr fw ci, cell_fr fw cj, cell_fr fw cl, cell_fr fw cm⟩ (fun _ => trivial) ?_
            clear hK
            refine until_only (i := 17) rfl (by kernel_rfl) (by rfl) ?_
            intro K' hK
            go_simp
            go_at_call 81
            refine (refquarter_any _ _ _ _ _).mono ?_
            rintro e W3 ⟨rfl, f3⟩
            go_wp2_with fail
            have A3 := f3.keep A3 (by simp)
            have fw : Fr [] wr W3 := fw.trans f3
            have A3 : At W3 wr.heap.size 125 [Value.int IntKind.i64 0, Value.int IntKind.i64 0, Value.int IntKind.i64 0, Value.int IntKind.i64 0] := A3
            obtain ⟨p, hpe⟩ : ∃ p, p = wr.heap.size := ⟨_, rfl⟩
            rw [← hpe] at A3 ⊢
            have hp : wr.heap.size ≤ p := by omega
            clear hpe
            refine hK _ _ ⟨cell_fr fw ci, cell_fr fw cj, cell_fr fw cl, cell_fr fw cm⟩ (fun _ => trivial) ?_
            clear hK
            refine until_only (i := 19) rfl (by kernel_rfl) (by rfl) ?_
            intro K' hK
            refine wp_store_row _ _ _ rfl p #[Value.int .i64 (wd (qr a b c d).1), Value.int .i64 (wd (qr a b c d).2.1), Value.int .i64 (wd (qr a b c d).2.2.1), Value.int .i64 (wd (qr a b c d).2.2.2)] rfl rfl 125 _ A3.out (by kernel_rfl) rfl (all_oneCell_toArray (by intro v hv; simp only [List.mem_cons, List.not_mem_nil, or_false] at hv; rcases hv with rfl | rfl | rfl | rfl <;> rfl)) ?_
            have A4 := A3.setRow #[Value.int .i64 (wd (qr a b c d).1), Value.int .i64 (wd (qr a b c d).2.1), Value.int .i64 (wd (qr a b c d).2.2.1), Value.int .i64 (wd (qr a b c d).2.2.2)]
            have fw : Fr [] wr (W3.setRow p #[Value.int .i64 (wd (qr a b c d).1), Value.int .i64 (wd (qr a b c d).2.1), Value.int .i64 (wd (qr a b c d).2.2.1), Value.int .i64 (wd (qr a b c d).2.2.2)]) := fw.new (S := [p]) (Fr.setRow _ _ _ _ (.inl (by simp))) (by simp; exact hp)
            obtain ⟨V, hV⟩ : ∃ V, V = W3.setRow p #[Value.int .i64 (wd (qr a b c d).1), Value.int .i64 (wd (qr a b c d).2.1), Value.int .i64 (wd (qr a b c d).2.2.1), Value.int .i64 (wd (qr a b c d).2.2.2)] := ⟨_, rfl⟩
            rw [← hV] at A4 fw ⊢
            refine hK _ _ ⟨cell_fr fw ci, cell_fr fw cj, cell_fr fw cl, cell_fr fw cm⟩ (fun _ => trivial) ?_
            clear hK hV A3
            refine until_done (by kernel_rfl) ?_ _
            have h1 := own_fr h1 fw (by simp)
            have ci := cell_fr fw ci
            have cj := cell_fr fw cj
            have cl := cell_fr fw cl
            have cm := cell_fr fw cm
            have fi := h1.frozenAt i
            have fj := h1.frozenAt j
            have fl := h1.frozenAt l
            have fm := h1.frozenAt m
            have p0 := A4.cell 0
            have p1 := A4.cell 1
            have p2 := A4.cell 2
            have p3 := A4.cell 3
            simp at p0 p1 p2 p3
            have hpg : p ≠ g := by omega
            have hgp : g ≠ p := Ne.symm hpg
            go_wp2_with fail
            refine ⟨⟨q + 1, by omega, by simp; omega, ?_, ?_⟩, by simp only [intOf]; omega⟩
            · obtain ⟨ha, hb, hc, hd⟩ := HA.out
              rw [HPS.out]
              unfold quarterAt
              dsimp only
              rw [← ha, ← hb, ← hc, ← hd, ← icells_set, ← icells_set, ← icells_set, ← icells_set]
              exact ((((h1.stored i _).1.stored j _).1.stored l _).1.stored m _).1
            · exact (hf.trans fw).new (S := [g]) ((((Fr.setCell _ _ _ _ (.inl (by simp))).trans (Fr.setCell _ _ _ _ (.inl (by simp)))).trans (Fr.setCell _ _ _ _ (.inl (by simp)))).trans (Fr.setCell _ _ _ _ (.inl (by simp)))) (by simp; exact hgb)
        · obtain rfl : q = 8 := by omega
          go_wp2_with fail
          exact ⟨⟨k + 1, by omega, by simp, h1, hf⟩, by simp only [intOf]; omega⟩
    · obtain rfl : k = 10 := by omega
      go_wp2_with fail
      go_ret
      exact ⟨_, rfl, h1, hf⟩
end Go.Proofs.YtichgiecohhmgaaDoor
