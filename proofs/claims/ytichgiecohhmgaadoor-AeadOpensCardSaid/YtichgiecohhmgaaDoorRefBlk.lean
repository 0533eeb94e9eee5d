/- A block of the stream: the reference's. -/
import Derived.Test.YtichgiecohhmgaaDoorBlock
import Derived.Test.YtichgiecohhmgaaDoorRef4D
import Derived.Test.YtichgiecohhmgaaDoorUntil
namespace Go.Proofs.YtichgiecohhmgaaDoor
open Go.RowKit Go.Lib Base Go.Joins
set_option linter.unusedVariables false
set_option linter.unusedSimpArgs false

set_option maxRecDepth 100000 in
set_option maxHeartbeats 1000000 in
theorem refblock_any (k n : ByteArray) (hk : k.size = 32) (hn : n.size = 12) (c : UInt32) (w : World) (ht : Places w) :
    Calls Tryd.prog 47 #[.string k, .int .i64 (wd c), .string n] w fun e w' => e = .returned (.string ⟨(blk k.data.toList n.data.toList c).toArray⟩) ∧ Fr [] w w' := by
  obtain ⟨iI, hiI, hz0, hz1, hz2⟩ := info_parts (P := Tryd.prog) (show (Tryd.prog.info? 3).map (fun i => (i.zero, i.size, i.bytes)) = some (some (.int .i64 0), 1, 8) by kernel_rfl)
  have hwn := words_len 3 n.data.toList (by simpa using hn)
  have hsl := bst_len k.data.toList n.data.toList c (by simpa using hk) (by simpa using hn)
  have hf4 : ([c] ++ words n.data.toList).length = 4 := by simp [hwn]
  have hstart := fun v4 base w h hb => start_any k hk ([c] ++ words n.data.toList) hf4 v4 base w h hb
  rw [show heads ++ words k.data.toList ++ ([c] ++ words n.data.toList) = bst k.data.toList n.data.toList c by simp [bst]] at hstart
  unfold blk
  generalize bst k.data.toList n.data.toList c = s0 at hsl hstart ⊢
  obtain ⟨s1, hs1⟩ : ∃ s, s = doubles s0 10 := ⟨_, rfl⟩
  have hl1 : s1.length = 16 := by rw [hs1, doubles_len, hsl]
  have heq : strm s0 = (addw s1 s0).flatMap bytes4 := by rw [hs1]; rfl
  rw [heq]
  have hro := fun v0 base w h hb ht => rounds_any s0 hsl v0 base w h hb ht
  rw [← hs1] at hro
  clear heq hs1
  go_enter Tryd.func47, Tryd.ntmps47
  have A2 := At.alloc_new w 3 #[Value.int .i64 (wd c)]
  go_wp2_with (first
    | (at_builtin; refine wpList_append_own _ rfl _ _ _ rfl w.heap.size 3 iI (.int .i64 0) 1 8 Tryd.underlying107 hiI hz0 hz1 hz2 rfl (by decide) _ 0 _ rfl (World.ownsRow_nil _ _ _ _) ⟨w.heap.size, 0, none⟩ 1 1 [Value.int .i64 (wd c)] rfl rfl (by intro j u hj; have := A2.cell j; rw [hj] at this; rw [addr_add', Nat.zero_add]; exact this) (by intro u hu; simp at hu; subst hu; rfl) (by simp [maxLen]) (by omega) (by simp) ?_; intro v1 w1 o1 gr1 _; have F1 : Fr [] w w1 := (Fr.alloc _ _ _).trans (Fr.ofGrown (S := []) gr1 (by intro q hq; have hq1 : none = some q := hq; cases hq1)))
    | (go_at_call 67; refine (wordsOf_any n 3 (by omega) (by omega) _).mono ?_; rintro e w2 ⟨v2, rfl, o2, f2⟩; obtain ⟨g2, c2, rfl⟩ := ownsRow_form o2 (by omega))
    | (at_builtin; refine wpList_append_own _ rfl _ _ _ rfl w.heap.size 3 iI (.int .i64 0) 1 8 Tryd.underlying107 hiI hz0 hz1 hz2 rfl (by decide) _ 1 _ rfl (own_fr o1 f2 (by simp)) ⟨g2, 0, none⟩ 3 c2 (icells (words n.data.toList)) rfl (by rw [icells_len, hwn]) (o2.cells rfl) (icells_one _) (by simp [maxLen]) (by omega) (by have := (F1.trans f2).size; simpa using this) ?_; intro v3 w3 o3 gr3 _; have F3 : Fr [] w w3 := (F1.trans f2).new (S := v1.ownBlock.toList) (Fr.ofGrown gr3 (by intro q hq; rw [show v1.ownBlock = some q from hq]; simp)) (fun x hx => (o1.lt x (by simpa using hx)).1))
    | (go_at_call 66; refine (hstart _ w.heap.size _ (by simpa [icells] using o3) F3.size).mono ?_; rintro e w4 ⟨v4, rfl, o4, f4⟩)
    | (go_at_call 65; refine (hro _ _ _ o4 f4.size (ht.keep (F3.trans f4) (by simp))).mono ?_; rintro e w5 ⟨v5, rfl, o5, f5⟩)
    | fail)
  obtain ⟨ga, ca, rfl⟩ := ownsRow_form o4 (by omega)
  obtain ⟨gb, cb, rfl⟩ := ownsRow_form o5 (by omega)
  have hgb := o5.lt gb rfl
  have hga := o4.lt ga rfl
  have hab : ga ≠ gb := by omega
  have hba : gb ≠ ga := by omega
  have oa := own_fr o4 f5 (by simp)
  have F5 : Fr [] w w5 := (F3.trans f4).trans f5
  have hbw : w.heap.size ≤ gb := by have := (F3.trans f4).size; omega
  clear hro hstart o3 o1 gr1 gr3 f2 f4 f5 o4
  go_loopw [10] (fun v wr => ∃ i : Nat, i ≤ 16 ∧ v = .int .i64 i ∧ wr.ownsRow w4.heap.size 3 1 (.slice (some ⟨gb, 0, none⟩) 16 cb) 16 (icells (addTo s1 s0 i)) ∧ wr.ownsRow w3.heap.size 3 1 (.slice (some ⟨ga, 0, none⟩) 16 ca) 16 (icells s0) ∧ Fr [] w wr) (fun v _ => 16 - (intOf v).toNat)
  case atStart => exact ⟨0, by omega, rfl, by simpa [addTo] using o5, oa, F5⟩
  case round =>
    clear o5 oa F5
    obtain ⟨i, hi, rfl, ob, oa, hf⟩ := hrel
    by_cases hl : i < 16
    · have cb' := ob.cellAt i (by omega)
      have ca' := oa.cellAt i (by omega)
      rw [icells_get _ _ (by rw [addTo_len _ _ _ (by omega)]; omega), addTo_get _ _ _ (by omega) (by omega)] at cb'
      rw [icells_get _ _ (by omega)] at ca'
      have fb := ob.frozenAt i
      have hss := Lib.hid (addTo_succ s1 s0 i (by omega) (by omega))
      generalize s1.getD i 0 = x at cb' hss
      generalize s0.getD i 0 = y at ca' hss
      have i16 : (i : Int) < 16 := by omega
      go_wp2_with fail
      refine wp_region_until (fun _ => True) (fun w' => w'.cell? ⟨gb, i, none⟩ = some (.int .i64 (wd x)) ∧ w'.cell? ⟨ga, i, none⟩ = some (.int .i64 (wd y))) 13 (by rfl) ?_
      have hT : True := trivial
      have s1 : _ ∧ _ := ⟨cb', ca'⟩
      have s1' := fun (_ : (false = false)) => s1
      refine until_t0 0 (v := ?_) rfl (by kernel_rfl) (fun _ _ _ h => h) (Or.inl ⟨by rfl, ?_⟩) (by assumption) (fun h => by first | assumption | exact absurd (h : true = false) (by decide)) ?_
      rotate_left
      · intro w hSw; (try dsimp only at hSw); (try go_simp); (try with_reducible rfl)
      try simp only [Act.put, List.setIfInBounds_toArray, List.set_cons_zero, List.set_cons_succ]
      refine until_t0 1 (v := ?_) rfl (by kernel_rfl) (fun _ _ _ h => h) (Or.inl ⟨by rfl, ?_⟩) (by assumption) (fun h => by first | assumption | exact absurd (h : true = false) (by decide)) ?_
      rotate_left
      · intro w hSw; (try dsimp only at hSw); (try go_simp); (try with_reducible rfl)
      try simp only [Act.put, List.setIfInBounds_toArray, List.set_cons_zero, List.set_cons_succ]
      refine until_t0 2 (v := ?_) rfl (by kernel_rfl) (fun _ _ _ h => h) (Or.inl ⟨by rfl, ?_⟩) (by assumption) (fun h => by first | assumption | exact absurd (h : true = false) (by decide)) ?_
      rotate_left
      · intro w hSw; (try dsimp only at hSw); (try go_simp); (try with_reducible rfl)
      try simp only [Act.put, List.setIfInBounds_toArray, List.set_cons_zero, List.set_cons_succ]
      refine until_t0 3 (v := ?_) rfl (by kernel_rfl) (fun _ _ _ h => h) (Or.inl ⟨by rfl, ?_⟩) (by assumption) (fun h => by first | assumption | exact absurd (h : true = false) (by decide)) ?_
      rotate_left
      · intro w hSw; (try dsimp only at hSw); (try go_simp); (try with_reducible rfl)
      try simp only [Act.put, List.setIfInBounds_toArray, List.set_cons_zero, List.set_cons_succ]
      refine until_t0 4 (v := ?_) rfl (by kernel_rfl) (fun _ _ _ h => h) (Or.inl ⟨by rfl, ?_⟩) (by assumption) (fun h => by first | assumption | exact absurd (h : true = false) (by decide)) ?_
      rotate_left
      · intro w hSw; (try dsimp only at hSw); (try go_simp); (try with_reducible rfl)
      try simp only [Act.put, List.setIfInBounds_toArray, List.set_cons_zero, List.set_cons_succ]
      refine until_t1 5 (v := ?_) rfl (by kernel_rfl) (fun _ _ _ h => h) (Or.inl ⟨by rfl, ?_⟩) (by assumption) (fun h => by first | assumption | exact absurd (h : true = false) (by decide)) ?_
      rotate_left
      · intro w hSw; (try dsimp only at hSw); (try go_simp); (try with_reducible rfl)
      try simp only [Act.put, List.setIfInBounds_toArray, List.set_cons_zero, List.set_cons_succ]
      refine until_t0 6 (v := ?_) rfl (by kernel_rfl) (fun _ _ _ h => h) (Or.inl ⟨by rfl, ?_⟩) (by assumption) (fun h => by first | assumption | exact absurd (h : true = false) (by decide)) ?_
      rotate_left
      · intro w hSw; (try dsimp only at hSw); (try go_simp); (try with_reducible rfl)
      try simp only [Act.put, List.setIfInBounds_toArray, List.set_cons_zero, List.set_cons_succ]
      refine until_t0 7 (v := ?_) rfl (by kernel_rfl) (fun _ _ _ h => h) (Or.inl ⟨by rfl, ?_⟩) (by assumption) (fun h => by first | assumption | exact absurd (h : true = false) (by decide)) ?_
      rotate_left
      · intro w hSw; (try dsimp only at hSw); (try go_simp); (try with_reducible rfl)
      try simp only [Act.put, List.setIfInBounds_toArray, List.set_cons_zero, List.set_cons_succ]
      refine until_t0 8 (v := ?_) rfl (by kernel_rfl) (fun _ _ _ h => h) (Or.inl ⟨by rfl, ?_⟩) (by assumption) (fun h => by first | assumption | exact absurd (h : true = false) (by decide)) ?_
      rotate_left
      · intro w hSw; (try dsimp only at hSw); (try go_simp); (try with_reducible rfl)
      try simp only [Act.put, List.setIfInBounds_toArray, List.set_cons_zero, List.set_cons_succ]
      refine until_t1 9 (v := ?_) rfl (by kernel_rfl) (fun _ _ _ h => h) (Or.inl ⟨by rfl, ?_⟩) (by assumption) (fun h => by first | assumption | exact absurd (h : true = false) (by decide)) ?_
      rotate_left
      · intro w hSw; (try dsimp only at hSw); (try go_simp); (try with_reducible rfl)
      try simp only [Act.put, List.setIfInBounds_toArray, List.set_cons_zero, List.set_cons_succ]
      refine until_t0 10 (v := ?_) rfl (by kernel_rfl) (fun _ _ _ h => h) (Or.inl ⟨by rfl, ?_⟩) (by assumption) (fun h => by first | assumption | exact absurd (h : true = false) (by decide)) ?_
      rotate_left
      · intro w hSw; (try dsimp only at hSw); (try go_simp); (try with_reducible rfl)
      try simp only [Act.put, List.setIfInBounds_toArray, List.set_cons_zero, List.set_cons_succ]
      refine until_t0 11 (v := ?_) rfl (by kernel_rfl) (fun _ _ _ h => h) (Or.inl ⟨by rfl, ?_⟩) (by assumption) (fun h => by first | assumption | exact absurd (h : true = false) (by decide)) ?_
      rotate_left
      · intro w hSw; (try dsimp only at hSw); (try go_simp); (try with_reducible rfl)
      try simp only [Act.put, List.setIfInBounds_toArray, List.set_cons_zero, List.set_cons_succ]
      refine until_t0 12 (v := ?_) rfl (by kernel_rfl) (fun _ _ _ h => h) (Or.inl ⟨by rfl, ?_⟩) (by assumption) (fun h => by first | assumption | exact absurd (h : true = false) (by decide)) ?_
      rotate_left
      · intro w hSw; (try dsimp only at hSw); (try go_simp); (try with_reducible rfl)
      try simp only [Act.put, List.setIfInBounds_toArray, List.set_cons_zero, List.set_cons_succ]
      refine until_only (i := 13) rfl (by kernel_rfl) (by rfl) ?_
      intro K' hK
      go_simp
      refine hK _ _ trivial (fun h => absurd (h : true = false) (by decide)) ?_
      clear hK s1 s1'
      refine until_done (by kernel_rfl) ?_ _
      go_wp2_with fail
      refine ⟨⟨i + 1, by omega, by simp, ?_, ?_, ?_⟩, by simp only [intOf]; omega⟩
      · rw [← hss.out, ← icells_set]
        exact (ob.stored i _).1
      · refine own_fr (S := [gb]) oa ((Fr.setCell [gb] wr ⟨gb, i, none⟩ _ (.inl List.mem_cons_self)).trans (Fr.drew _ _)) ?_
        intro q hq
        have := Option.some.inj (show some ga = some q from hq)
        subst this
        simpa using hab
      · exact hf.new (S := [gb]) ((Fr.setCell [gb] wr ⟨gb, i, none⟩ _ (.inl List.mem_cons_self)).trans (Fr.drew _ _)) (by simp; omega)
    · obtain rfl : i = 16 := by omega
      have e16 : addTo s1 s0 16 = addw s1 s0 := by
        unfold addTo
        rw [List.take_of_length_le (by rw [addw_len, hl1, hsl]; simp), List.drop_eq_nil_of_le (by omega), List.append_nil]
      rw [e16] at ob
      have hla : (addw s1 s0).length = 16 := by rw [addw_len, hl1, hsl]; rfl
      go_wp2_with (first
        | (go_at_call 68; refine (bytesOf_any (addw s1 s0) 16 hla (by omega) (by omega) _ _ _ ob (by have := ob.lt gb rfl; omega)).mono ?_; rintro e w6 ⟨rfl, f6⟩)
        | fail)
      go_ret
      exact ⟨rfl, hf.trans f6⟩
end Go.Proofs.YtichgiecohhmgaaDoor
