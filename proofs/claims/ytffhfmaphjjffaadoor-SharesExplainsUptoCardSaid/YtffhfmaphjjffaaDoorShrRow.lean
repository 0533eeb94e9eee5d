/- Rows of the program: one and another one times a byte. -/
import Derived.Test.YtffhfmaphjjffaaDoorShrMul
import Derived.Test.YtffhfmaphjjffaaDoorShrP
import Derived.Test.YtffhfmaphjjffaaDoorUntil
namespace Go.Proofs.YtffhfmaphjjffaaDoor
open Go.RowKit Go.Lib Base Gf
set_option linter.unusedVariables false
set_option linter.unusedSimpArgs false

/-- The first m bytes of the sum, the others as they were. -/
def plusTo (r o : List UInt8) (f : UInt8) (m : Nat) : List UInt8 := (plusR r o f).take m ++ r.drop m
theorem plusTo_len (r o : List UInt8) (f : UInt8) (m : Nat) (h : r.length = o.length) (hm : m ≤ r.length) : (plusTo r o f m).length = r.length := by
  have := plusR_len r o f h
  simp [plusTo]; omega
theorem plusTo_get (r o : List UInt8) (f : UInt8) (m : Nat) (h : r.length = o.length) (hm : m < r.length) : (plusTo r o f m).getD m 0 = r.getD m 0 := by
  have := plusR_len r o f h
  unfold plusTo
  rw [List.getD, List.getElem?_append_right (by simp; omega), List.length_take, Nat.min_eq_left (by omega), Nat.sub_self, List.getElem?_drop, Nat.add_zero]; rfl
theorem plusTo_set (r o : List UInt8) (f : UInt8) (m : Nat) (h : r.length = o.length) (hm : m < r.length) : (plusTo r o f m).set m (r.getD m 0 ^^^ gmul (o.getD m 0) f) = plusTo r o f (m + 1) := by
  have hx := plusR_len r o f h
  have hg := plusR_get r o f m hm (by omega)
  have l1 : ((plusR r o f).take m).length = m := by simp; omega
  have e : (plusR r o f)[m]'(by omega) = r.getD m 0 ^^^ gmul (o.getD m 0) f := by rw [← hg, List.getD, List.getElem?_eq_getElem (by omega)]; rfl
  unfold plusTo
  rw [List.set_append_right _ _ (by omega), l1, Nat.sub_self, List.drop_eq_getElem_cons hm, List.set_cons_zero, List.take_add_one, List.getElem?_eq_getElem (by omega), e, List.append_assoc]
  simp
theorem plusTo_zero (r o : List UInt8) (f : UInt8) : plusTo r o f 0 = r := by simp [plusTo]
theorem plusTo_all (r o : List UInt8) (f : UInt8) (h : r.length = o.length) : plusTo r o f r.length = plusR r o f := by
  have := plusR_len r o f h
  simp [plusTo, List.take_of_length_le (Nat.le_of_eq this)]

set_option maxRecDepth 100000 in
set_option maxHeartbeats 4000000 in
theorem plus_any (R O : List UInt8) (f : UInt8) (hR : R.length = 32) (hO : O.length = 32) (w : World) :
    Calls Tryd.prog 31 #[.agg (byteCells R).toArray, .agg (byteCells O).toArray, .int .u8 (bt f)] w fun e w' => e = .returned (.agg (byteCells (plusR R O f)).toArray) ∧ Fr [] w w' := by
  have hz : ∃ Z : Array Value, Z = (List.replicate 32 (Value.int IntKind.u8 0)).toArray := ⟨_, rfl⟩
  have hszA : ∀ X : List UInt8, X.length = 32 → (Tryd.prog.info? 63).map (·.size) = some (byteCells X).toArray.size := fun X h => by
    rw [List.size_toArray, byteCells_length, h]; kernel_rfl
  have hallA : ∀ X : List UInt8, (byteCells X).toArray.all (·.oneCell') = true := fun X => all_oneCell_toArray (byteCells_one X)
  obtain ⟨X, hX⟩ : ∃ X, X = plusR R O f := ⟨_, rfl⟩
  have hXl : X.length = 32 := by rw [hX, plusR_len _ _ _ (by omega), hR]
  have hsz := hszA X hXl
  have hall := hallA X
  have hold : (List.replicate 32 (Value.int IntKind.u8 0)).toArray.size = (byteCells X).toArray.size := by simp [byteCells_length, hXl]
  have HX := Lib.hid hX
  rw [← hX]
  have hbR : (byteCells R).toArray.size = 32 := by simp [byteCells_length, hR]
  have hbO : (byteCells O).toArray.size = 32 := by simp [byteCells_length, hO]
  have HS := Lib.hid (And.intro hR hO)
  clear hX hXl hszA hallA hR hO hz
  go_enter Tryd.func31, Tryd.ntmps31
  go_wp2_with fail
  obtain ⟨hR, hO⟩ := HS.out
  have hA0 := (((At.alloc_new w 63 (byteCells R).toArray).alloc (.cells (byteCells O).toArray 63)).alloc (.cells (List.replicate 32 (Value.int IntKind.u8 0)).toArray 63))
  have hA1 := ((At.alloc_new (w.alloc (.cells (byteCells R).toArray 63)) 63 (byteCells O).toArray).alloc (.cells (List.replicate 32 (Value.int IntKind.u8 0)).toArray 63))
  have hA2 := At.alloc_new ((w.alloc (.cells (byteCells R).toArray 63)).alloc (.cells (byteCells O).toArray 63)) 63 (List.replicate 32 (Value.int IntKind.u8 0)).toArray
  have hF : Fr [] w (((w.alloc (.cells (byteCells R).toArray 63)).alloc (.cells (byteCells O).toArray 63)).alloc (.cells (List.replicate 32 (Value.int IntKind.u8 0)).toArray 63)) := ((Fr.alloc _ _ _).trans (Fr.alloc _ _ _)).trans (Fr.alloc _ _ _)
  rw [List.toList_toArray] at hA0 hA1 hA2
  have hs1 : (w.alloc (.cells (byteCells R).toArray 63)).heap.size = w.heap.size + 1 := by simp
  have hs2 : ((w.alloc (.cells (byteCells R).toArray 63)).alloc (.cells (byteCells O).toArray 63)).heap.size = w.heap.size + 2 := by simp
  rw [hs1] at hA1
  rw [hs2] at hA2
  clear hs1 hs2
  obtain ⟨p, hp⟩ : ∃ p, p = w.heap.size := ⟨_, rfl⟩
  rw [← hp] at hA0 hA1 hA2
  simp only [← hp]
  have HP := Lib.hid hp
  clear hp
  go_loopw [7, 8] (fun _ v8 wr => ∃ m : Nat, m ≤ 32 ∧ v8 = .int .i64 m ∧ At wr p 63 (byteCells (plusTo R O f m)) ∧ At wr (p + 1) 63 (byteCells O) ∧ At wr (p + 2) 63 (List.replicate 32 (Value.int IntKind.u8 0)) ∧ Fr [] w wr) (fun _ v _ => 32 - (intOf v).toNat)
  case atStart => exact ⟨0, by omega, rfl, by rw [plusTo_zero]; exact hA0, hA1, hA2, hF⟩
  case round =>
    clear hA0 hA1 hA2 hF
    obtain ⟨m, hm, rfl, hA0, hA1, hA2, hF⟩ := hrel
    by_cases hl : m < 32
    · have l1 : (m : Int) < 32 := by omega
      obtain ⟨x1, hx1⟩ : ∃ x, x = R.getD m 0 := ⟨_, rfl⟩
      obtain ⟨x2, hx2⟩ : ∃ x, x = O.getD m 0 := ⟨_, rfl⟩
      have c1 := hA0.cell m
      rw [byteCells_get _ _ (by rw [plusTo_len _ _ _ _ (by omega) (by omega)]; omega), plusTo_get _ _ _ _ (by omega) (by omega), ← hx1] at c1
      have c2 := hA1.cell m
      rw [byteCells_get _ _ (by omega), ← hx2] at c2
      have fz := hA0.frozen m
      have hset : (byteCells (plusTo R O f m)).set m (.int .u8 (bt (x1 ^^^ gmul x2 f))) = byteCells (plusTo R O f (m + 1)) := by
        rw [byteCells_set, hx1, hx2, plusTo_set _ _ _ _ (by omega) (by omega)]
      have HE := Lib.hid hset
      clear hset hx1 hx2 hR hO
      have cm := mul_any x2 f
      obtain ⟨y, hy⟩ : ∃ y, y = gmul x2 f := ⟨_, rfl⟩
      rw [← hy] at HE
      simp only [← hy] at cm
      clear hy
      go_wp2_with fail
      refine wp_region_until (fun w' => At w' (p + 1) 63 (byteCells O) ∧ w'.cell? ⟨p + 1, m, none⟩ = some (.int .u8 (bt x2))) (fun w' => w'.cell? ⟨p, m, none⟩ = some (.int .u8 (bt x1))) 10 (by rfl) ?_
      have hT : True := trivial
      have s0 : At wr.drew (p + 1) 63 (byteCells O) ∧ wr.drew.cell? ⟨p + 1, m, none⟩ = some (.int .u8 (bt x2)) := ⟨hA1.drew, c2⟩
      have s1 : wr.drew.cell? ⟨p, m, none⟩ = some (.int .u8 (bt x1)) := c1
      have s1' := fun (_ : (false = false)) => s1
      refine until_s0 0 (v := ?_) rfl (by kernel_rfl) (fun _ _ _ h => h) (Or.inl ⟨by rfl, ?_⟩) (by assumption) (fun h => by first | assumption | exact absurd (h : true = false) (by decide)) ?_
      rotate_left
      · intro w hSw; (try dsimp only at hSw); (try go_simp); (try with_reducible rfl)
      try simp only [Act.put, List.setIfInBounds_toArray, List.set_cons_zero, List.set_cons_succ]
      refine until_s0 1 (v := ?_) rfl (by kernel_rfl) (fun _ _ _ h => h) (Or.inl ⟨by rfl, ?_⟩) (by assumption) (fun h => by first | assumption | exact absurd (h : true = false) (by decide)) ?_
      rotate_left
      · intro w hSw; (try dsimp only at hSw); (try go_simp); (try with_reducible rfl)
      try simp only [Act.put, List.setIfInBounds_toArray, List.set_cons_zero, List.set_cons_succ]
      refine until_s1 2 (v := ?_) rfl (by kernel_rfl) (fun _ _ _ h => h) (Or.inl ⟨by rfl, ?_⟩) (by assumption) (fun h => by first | assumption | exact absurd (h : true = false) (by decide)) ?_
      rotate_left
      · intro w hSw; (try dsimp only at hSw); (try go_simp); (try with_reducible rfl)
      try simp only [Act.put, List.setIfInBounds_toArray, List.set_cons_zero, List.set_cons_succ]
      refine until_s0 3 (v := ?_) rfl (by kernel_rfl) (fun _ _ _ h => h) (Or.inl ⟨by rfl, ?_⟩) (by assumption) (fun h => by first | assumption | exact absurd (h : true = false) (by decide)) ?_
      rotate_left
      · intro w hSw; (try dsimp only at hSw); (try go_simp); (try with_reducible rfl)
      try simp only [Act.put, List.setIfInBounds_toArray, List.set_cons_zero, List.set_cons_succ]
      refine until_s0 4 (v := ?_) rfl (by kernel_rfl) (fun _ _ _ h => h) (Or.inl ⟨by rfl, ?_⟩) (by assumption) (fun h => by first | assumption | exact absurd (h : true = false) (by decide)) ?_
      rotate_left
      · intro w hSw; (try dsimp only at hSw); (try go_simp); (try with_reducible rfl)
      try simp only [Act.put, List.setIfInBounds_toArray, List.set_cons_zero, List.set_cons_succ]
      refine until_s0 5 (v := ?_) rfl (by kernel_rfl) (fun _ _ _ h => h) (Or.inl ⟨by rfl, ?_⟩) (by assumption) (fun h => by first | assumption | exact absurd (h : true = false) (by decide)) ?_
      rotate_left
      · intro w hSw; (try dsimp only at hSw); (try go_simp); (try with_reducible rfl)
      try simp only [Act.put, List.setIfInBounds_toArray, List.set_cons_zero, List.set_cons_succ]
      refine until_s0 6 (v := ?_) rfl (by kernel_rfl) (fun _ _ _ h => h) (Or.inl ⟨by rfl, ?_⟩) (by assumption) (fun h => by first | assumption | exact absurd (h : true = false) (by decide)) ?_
      rotate_left
      · intro w hSw; (try dsimp only at hSw); (try go_simp); (try with_reducible rfl)
      try simp only [Act.put, List.setIfInBounds_toArray, List.set_cons_zero, List.set_cons_succ]
      refine until_sole 7 rfl (by kernel_rfl) (by rfl) ?_
      intro K' hK
      go_simp
      go_at_call 45
      refine (cm _).mono ?_
      rintro _ w1 ⟨rfl, rfl⟩
      go_wp2_with fail
      refine hK _ _ s0 (fun _ => s1) ?_
      clear hK
      refine until_s0 8 (v := ?_) rfl (by kernel_rfl) (fun _ _ _ h => h) (Or.inl ⟨by rfl, ?_⟩) (by assumption) (fun h => by first | assumption | exact absurd (h : true = false) (by decide)) ?_
      rotate_left
      · intro w hSw; (try dsimp only at hSw); (try go_simp); (try with_reducible rfl)
      try simp only [Act.put, List.setIfInBounds_toArray, List.set_cons_zero, List.set_cons_succ]
      refine until_s0 9 (v := ?_) rfl (by kernel_rfl) (fun _ _ _ h => h) (Or.inl ⟨by rfl, ?_⟩) (by assumption) (fun h => by first | assumption | exact absurd (h : true = false) (by decide)) ?_
      rotate_left
      · intro w hSw; (try dsimp only at hSw); (try go_simp); (try with_reducible rfl)
      try simp only [Act.put, List.setIfInBounds_toArray, List.set_cons_zero, List.set_cons_succ]
      refine until_sole 10 rfl (by kernel_rfl) (by rfl) ?_
      intro K' hK
      go_simp
      have s0b : At (wr.setCell ⟨p, m, none⟩ (.int .u8 (bt (x1 ^^^ y)))).drew (p + 1) 63 (byteCells O) ∧ (wr.setCell ⟨p, m, none⟩ (.int .u8 (bt (x1 ^^^ y)))).drew.cell? ⟨p + 1, m, none⟩ = some (.int .u8 (bt x2)) := ⟨(hA1.setCell_other (by simp) _).drew, ((hA1.setCell_other (a := ⟨p, m, none⟩) (by simp) _).cell m).trans ((hA1.cell m).symm.trans c2)⟩
      refine hK _ _ s0b (fun h => absurd h (by decide)) ?_
      clear hK s0 s1 s1'
      refine until_done (by kernel_rfl) ?_ _
      go_wp2_with fail
      have f5 : Fr [p] wr (wr.setCell ⟨p, m, none⟩ (.int .u8 (bt (x1 ^^^ y)))).drew := (Fr.setCell [p] wr ⟨p, m, none⟩ _ (.inl (by simp))).trans (Fr.drew _ _)
      refine ⟨⟨m + 1, by omega, by simp, ?_, f5.keep hA1 (by simp), f5.keep hA2 (by simp), hF.new f5 (by simp; have := HP.out; omega)⟩, by simp only [intOf]; omega⟩
      rw [← HE.out]
      exact (hA0.setCell m _).drew
    · obtain rfl : m = 32 := by omega
      have hAll := plusTo_all R O f (by omega)
      rw [hR, ← HX.out] at hAll
      rw [hAll] at hA0
      clear hAll
      go_wp2_with (first
        | refine wpList_load_row rfl _ _ rfl _ rfl _ _ _ _ hA0.out Tryd.underlying63 rfl hsz ?_
        | refine wpList_store_row rfl _ _ _ rfl _ _ rfl rfl _ _ hA2.out hsz hold hall ?_
        | fail)
      have hA2' : At (wr.setRow (p + 2) (byteCells X).toArray) (p + 2) 63 (byteCells X) := by
        have := hA2.setRow (byteCells X).toArray
        rwa [List.toList_toArray] at this
      refine ⟨rfl, _, ?_, rfl, hF.new (S := [p + 2]) (Fr.setRow _ _ _ _ (.inl (by simp))) (by simp; have := HP.out; omega)⟩
      refine results_cell_row (fn := Tryd.f31) (p := 6) (ty := 63) (by rfl) _ _ (p + 2) 63 (byteCells X).toArray (0, 0) _ ?_ hA2'.out Tryd.underlying63 rfl hsz
      simp only [Act.put, List.setIfInBounds_toArray, List.set_cons_zero, List.set_cons_succ, Array.getD_eq_getD_getElem?, List.getElem?_toArray, List.getElem?_cons_succ, List.getElem?_cons_zero, Option.getD_some]
end Go.Proofs.YtffhfmaphjjffaaDoor
