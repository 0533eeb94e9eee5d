/- The document's running sum: its sum, its state. -/
import Derived.Test.YtkagmoaapampgaaDoorHshR
import Derived.Test.YtkagmoaapampgaaDoorQuiet
import Derived.Test.YtkagmoaapampgaaDoorUntil
namespace Go.Proofs.YtkagmoaapampgaaDoor
open Go.RowKit Go.Lib Go.Joins Base
set_option linter.unusedVariables false
set_option linter.unusedSimpArgs false

set_option maxRecDepth 100000 in
set_option maxHeartbeats 4000000 in
theorem rsumh_any (r : Nat) (F : List UInt32) (A : Nat) (R : ByteArray) (hF : F.length = 8) (hs : A + R.size ≤ 1099511627776) (w : World) (hP : Powers w) (hQ : RefRoots w) (h : RH w r F A R) :
    Calls Tryd.prog 38 #[.pointer (some ⟨r, 0, none⟩)] w fun e w' => e = .returned (.string ⟨(sumOf F R.data.toList (A + R.size)).toArray⟩) ∧ Fr [] w w' := by
  have hz : (padL (A + R.size)).length ≤ 73 := by simp [padL, bigL_len, zerosB, zerosN]; omega
  obtain ⟨t, ht⟩ : ∃ t : ByteArray, t = ⟨(padL (A + R.size)).toArray⟩ := ⟨_, rfl⟩
  have htd : t.data.toList = padL (A + R.size) := by rw [ht]
  have htl : t.size ≤ 73 := by
    have : t.data.toList.length = t.size := by simp
    rw [htd] at this; omega
  have hstd : (R ++ t).data.toList = R.data.toList ++ padL (A + R.size) := by rw [ByteArray.data_append]; simp [htd]
  have hstl : (R ++ t).size = R.size + t.size := ByteArray.size_append
  have cT := fun w => rtail_any (A + R.size) (by omega) w
  rw [← ht, show ((A + R.size : Nat) : Int) = (A : Int) + R.size by omega] at cT
  obtain ⟨X, hX⟩ : ∃ X, X = wordsOf F (R.data.toList ++ padL (A + R.size)) := ⟨_, rfl⟩
  have cB : ∀ w, Powers w → RefRoots w → Calls Tryd.prog 27 #[.agg (icells F).toArray, .string (R ++ t)] w fun e w' => e = .returned (.agg (icells X).toArray) ∧ Fr [] w w' := fun w h1 h2 => by
    have := rblocks_any F hF (R ++ t) (by omega) w h1 h2
    rw [hstd, ← hX] at this
    exact this
  have hXl : X.length = 8 := by rw [hX]; exact wordsOf_len _ _ hF
  have cD := fun w => rtold_any X hXl w
  have hans : toldL X = sumOf F R.data.toList (A + R.size) := by rw [hX]; rfl
  rw [hans] at cD
  have hsz : (Tryd.prog.info? 58).map (·.size) = some (icells X).toArray.size := by rw [List.size_toArray, icells_len, hXl]; kernel_rfl
  have hold : [Value.int .i64 0, Value.int .i64 0, Value.int .i64 0, Value.int .i64 0, Value.int .i64 0, Value.int .i64 0, Value.int .i64 0, Value.int .i64 0].toArray.size = (icells X).toArray.size := by rw [List.size_toArray, List.size_toArray, icells_len, hXl]; rfl
  have hX1 := icells_one X
  have w1 : IntKind.i64.wrap ((A : Int) + R.size) = (A : Int) + R.size := IntWalk.i64_in _ (by omega)
  have k1 : ¬ 9223372036854775807 < R.size + t.size := by omega
  have good := fun w' => RH.row (w' := w') h hF
  obtain ⟨fin, hfin⟩ : ∃ y : ByteArray, y = ⟨(sumOf F R.data.toList (A + R.size)).toArray⟩ := ⟨_, rfl⟩
  rw [← hfin] at cD ⊢
  clear hz ht htd htl hstd hstl hX hXl hans hfin hs
  go_enter Tryd.func38, Tryd.ntmps38
  go_wp2_with fail
  refine wp_region_until (fun w' => w'.cell? ⟨r, 8, none⟩ = some (.int .i64 (A : Int)) ∧ w'.cell? ⟨r, 9, none⟩ = some (.string R) ∧ (loadVar 58 ⟨r, 0, none⟩).run Tryd.prog w' = .ok (.agg (icells F).toArray) w' ∧ Fr [] w w') (fun _ => True) 1000 (by rfl) ?_
  have hT1 : True := trivial
  have s0 : _ ∧ _ ∧ _ ∧ _ := good _ (Fr.drew _ _)
  refine until_s0 0 (v := ?_) rfl (by kernel_rfl) (fun _ _ _ h => h) (Or.inl ⟨by rfl, ?_⟩) (by assumption) (fun h => by first | assumption | exact absurd (h : true = false) (by decide)) ?_
  rotate_left
  · intro w hSw; (try dsimp only at hSw); (try go_simp); (try with_reducible rfl)
  try simp only [Act.put, List.setIfInBounds_toArray, List.set_cons_zero, List.set_cons_succ]
  refine until_s0 1 (v := ?_) rfl (by kernel_rfl) (fun _ _ _ h => h) (Or.inl ⟨by rfl, ?_⟩) (by assumption) (fun h => by first | assumption | exact absurd (h : true = false) (by decide)) ?_
  rotate_left
  · intro w hSw; (try dsimp only at hSw); (try go_simp); (try with_reducible rfl)
  try simp only [Act.put, List.setIfInBounds_toArray, List.set_cons_zero, List.set_cons_succ]
  refine until_s0 2 (v := ?_) rfl (by kernel_rfl) (fun _ _ _ h => h) (Or.inl ⟨by rfl, ?_⟩) (by assumption) (fun h => by first | assumption | exact absurd (h : true = false) (by decide)) ?_
  rotate_left
  · intro w hSw; (try dsimp only at hSw); (try go_simp); (try with_reducible rfl)
  try simp only [Act.put, List.setIfInBounds_toArray, List.set_cons_zero, List.set_cons_succ]
  refine until_s0 4 (v := ?_) rfl (by kernel_rfl) (fun _ _ _ h => h) (Or.inl ⟨by rfl, ?_⟩) (by assumption) (fun h => by first | assumption | exact absurd (h : true = false) (by decide)) ?_
  rotate_left
  · intro w hSw; (try dsimp only at hSw); (try go_simp); (try with_reducible rfl)
  try simp only [Act.put, List.setIfInBounds_toArray, List.set_cons_zero, List.set_cons_succ]
  refine until_s0 5 (v := ?_) rfl (by kernel_rfl) (fun _ _ _ h => h) (Or.inl ⟨by rfl, ?_⟩) (by assumption) (fun h => by first | assumption | exact absurd (h : true = false) (by decide)) ?_
  rotate_left
  · intro w hSw; (try dsimp only at hSw); (try go_simp); (try with_reducible rfl)
  try simp only [Act.put, List.setIfInBounds_toArray, List.set_cons_zero, List.set_cons_succ]
  refine until_s0 6 (v := ?_) rfl (by kernel_rfl) (fun _ _ _ h => h) (Or.inl ⟨by rfl, ?_⟩) (by assumption) (fun h => by first | assumption | exact absurd (h : true = false) (by decide)) ?_
  rotate_left
  · intro w hSw; (try dsimp only at hSw); (try go_simp); (try with_reducible rfl)
  try simp only [Act.put, List.setIfInBounds_toArray, List.set_cons_zero, List.set_cons_succ]
  refine until_s0 7 (v := ?_) rfl (by kernel_rfl) (fun _ _ _ h => h) (Or.inl ⟨by rfl, ?_⟩) (by assumption) (fun h => by first | assumption | exact absurd (h : true = false) (by decide)) ?_
  rotate_left
  · intro w hSw; (try dsimp only at hSw); (try go_simp); (try with_reducible rfl)
  try simp only [Act.put, List.setIfInBounds_toArray, List.set_cons_zero, List.set_cons_succ]
  refine until_s0 8 (v := ?_) rfl (by kernel_rfl) (fun _ _ _ h => h) (Or.inl ⟨by rfl, ?_⟩) (by assumption) (fun h => by first | assumption | exact absurd (h : true = false) (by decide)) ?_
  rotate_left
  · intro w hSw; (try dsimp only at hSw); (try go_simp); (try with_reducible rfl)
  try simp only [Act.put, List.setIfInBounds_toArray, List.set_cons_zero, List.set_cons_succ]
  refine until_s0 9 (v := ?_) rfl (by kernel_rfl) (fun _ _ _ h => h) (Or.inl ⟨by rfl, ?_⟩) (by assumption) (fun h => by first | assumption | exact absurd (h : true = false) (by decide)) ?_
  rotate_left
  · intro w hSw; (try dsimp only at hSw); (try go_simp); (try with_reducible rfl)
  try simp only [Act.put, List.setIfInBounds_toArray, List.set_cons_zero, List.set_cons_succ]
  refine until_s0 10 (v := ?_) rfl (by kernel_rfl) (fun _ _ _ h => h) (Or.inl ⟨by rfl, ?_⟩) (by assumption) (fun h => by first | assumption | exact absurd (h : true = false) (by decide)) ?_
  rotate_left
  · intro w hSw; (try dsimp only at hSw); (try go_simp); (try with_reducible rfl)
  try simp only [Act.put, List.setIfInBounds_toArray, List.set_cons_zero, List.set_cons_succ]
  refine until_s0 11 (v := ?_) rfl (by kernel_rfl) (fun _ _ _ h => h) (Or.inl ⟨by rfl, ?_⟩) (by assumption) (fun h => by first | assumption | exact absurd (h : true = false) (by decide)) ?_
  rotate_left
  · intro w hSw; (try dsimp only at hSw); (try go_simp); (try with_reducible rfl)
  try simp only [Act.put, List.setIfInBounds_toArray, List.set_cons_zero, List.set_cons_succ]
  refine until_s0 12 (v := ?_) rfl (by kernel_rfl) (fun _ _ _ h => h) (Or.inl ⟨by rfl, ?_⟩) (by assumption) (fun h => by first | assumption | exact absurd (h : true = false) (by decide)) ?_
  rotate_left
  · intro w hSw; (try dsimp only at hSw); (try go_simp); (try with_reducible rfl)
  try simp only [Act.put, List.setIfInBounds_toArray, List.set_cons_zero, List.set_cons_succ]
  refine until_s0 13 (v := ?_) rfl (by kernel_rfl) (fun _ _ _ h => h) (Or.inl ⟨by rfl, ?_⟩) (by assumption) (fun h => by first | assumption | exact absurd (h : true = false) (by decide)) ?_
  rotate_left
  · intro w hSw; (try dsimp only at hSw); (try go_simp); (try with_reducible rfl)
  try simp only [Act.put, List.setIfInBounds_toArray, List.set_cons_zero, List.set_cons_succ]
  refine until_s0 14 (v := ?_) rfl (by kernel_rfl) (fun _ _ _ h => h) (Or.inl ⟨by rfl, ?_⟩) (by assumption) (fun h => by first | assumption | exact absurd (h : true = false) (by decide)) ?_
  rotate_left
  · intro w hSw; (try dsimp only at hSw); (try go_simp); (try with_reducible rfl)
  try simp only [Act.put, List.setIfInBounds_toArray, List.set_cons_zero, List.set_cons_succ]
  refine until_s0 15 (v := ?_) rfl (by kernel_rfl) (fun _ _ _ h => h) (Or.inl ⟨by rfl, ?_⟩) (by assumption) (fun h => by first | assumption | exact absurd (h : true = false) (by decide)) ?_
  rotate_left
  · intro w hSw; (try dsimp only at hSw); (try go_simp); (try with_reducible rfl)
  try simp only [Act.put, List.setIfInBounds_toArray, List.set_cons_zero, List.set_cons_succ]
  refine until_s0 16 (v := ?_) rfl (by kernel_rfl) (fun _ _ _ h => h) (Or.inl ⟨by rfl, ?_⟩) (by assumption) (fun h => by first | assumption | exact absurd (h : true = false) (by decide)) ?_
  rotate_left
  · intro w hSw; (try dsimp only at hSw); (try go_simp); (try with_reducible rfl)
  try simp only [Act.put, List.setIfInBounds_toArray, List.set_cons_zero, List.set_cons_succ]
  refine until_s0 17 (v := ?_) rfl (by kernel_rfl) (fun _ _ _ h => h) (Or.inl ⟨by rfl, ?_⟩) (by assumption) (fun h => by first | assumption | exact absurd (h : true = false) (by decide)) ?_
  rotate_left
  · intro w hSw; (try dsimp only at hSw); (try go_simp); (try with_reducible rfl)
  try simp only [Act.put, List.setIfInBounds_toArray, List.set_cons_zero, List.set_cons_succ]
  refine until_s0 3 (v := .agg (icells F).toArray) rfl (by kernel_rfl) (fun _ _ _ h => h) (Or.inl ⟨by rfl, fun w' hS => exec_load rfl rfl hS.2.2.1⟩) (by assumption) (fun h => by first | assumption | exact absurd (h : true = false) (by decide)) ?_
  try simp only [Act.put, List.setIfInBounds_toArray, List.set_cons_zero, List.set_cons_succ]
  refine until_two (i := 18) (j := 21) rfl rfl (by kernel_rfl) (by rfl) (by rfl) ?_ ?_
  · intro K' hK
    go_simp
    go_at_call 29
    refine (cT _).mono ?_
    rintro _ w2 ⟨rfl, f2⟩
    go_wp2_with fail
    have g2 : Fr [] w w2 := (Fr.drew [] w).trans f2
    have s2 := good _ g2
    refine hK _ _ s2 (fun _ => trivial) ?_
    clear hK
    clear s0
    refine until_s0 19 (v := ?_) rfl (by kernel_rfl) (fun _ _ _ h => h) (Or.inl ⟨by rfl, ?_⟩) (by assumption) (fun h => by first | assumption | exact absurd (h : true = false) (by decide)) ?_
    rotate_left
    · intro w hSw; (try dsimp only at hSw); (try go_simp); (try with_reducible rfl)
    try simp only [Act.put, List.setIfInBounds_toArray, List.set_cons_zero, List.set_cons_succ]
    refine until_two (i := 20) (j := 21) rfl rfl (by kernel_rfl) (by rfl) (by rfl) ?_ ?_
    · intro K' hK
      go_simp
      go_at_call 27
      refine (cB _ (hP.keep g2) (hQ.keep g2)).mono ?_
      rintro _ w3 ⟨rfl, f3⟩
      go_wp2_with fail
      have g3 : Fr [] w w3 := g2.trans f3
      have s3 := good _ g3
      refine hK _ _ s3 (fun _ => trivial) ?_
      clear hK
      refine until_sole 21 rfl (by kernel_rfl) (by rfl) ?_
      intro K' hK
      go_simp
      have g4 : Fr [] w (w3.alloc _) := g3.trans (Fr.alloc [] w3 (.cells #[Value.int .i64 0, Value.int .i64 0, Value.int .i64 0, Value.int .i64 0, Value.int .i64 0, Value.int .i64 0, Value.int .i64 0, Value.int .i64 0] 58))
      have A4 := At.alloc_new w3 58 #[Value.int .i64 0, Value.int .i64 0, Value.int .i64 0, Value.int .i64 0, Value.int .i64 0, Value.int .i64 0, Value.int .i64 0, Value.int .i64 0]
      have s4 := good _ g4
      refine hK _ _ s4 (fun _ => trivial) ?_
      clear hK
      have hg := g3.size
      refine until_sole 22 rfl (by kernel_rfl) (by rfl) ?_
      intro K' hK
      refine wp_store_row _ _ _ rfl _ _ rfl rfl _ _ A4.out hsz hold hX1 ?_
      have hA := A4.setRow (icells X).toArray
      rw [List.toList_toArray] at hA
      have g0 := g4.new (S := [w3.heap.size]) (Fr.setRow [w3.heap.size] _ w3.heap.size (icells X).toArray (.inl (by simp))) (by intro y hy; simp only [List.mem_singleton] at hy; subst hy; exact hg)
      refine hK _ _ (good _ g0) (fun _ => trivial) ?_
      clear hK
      refine until_done (by kernel_rfl) ?_ _
      go_wp2_with (first
        | refine wpList_load_row rfl _ _ rfl _ rfl _ _ _ _ hA.out Tryd.underlying58 rfl hsz ?_
        | (go_at_call 30; refine (cD _).mono ?_; rintro _ w9 ⟨rfl, f9⟩)
        | fail)
      go_ret
      exact ⟨rfl, g0.trans f9⟩
    · intro K' hK
      go_simp
      have g3 : Fr [] w (w2.alloc _) := g2.trans (Fr.alloc [] w2 (.cells #[Value.int .i64 0, Value.int .i64 0, Value.int .i64 0, Value.int .i64 0, Value.int .i64 0, Value.int .i64 0, Value.int .i64 0, Value.int .i64 0] 58))
      have A3 := At.alloc_new w2 58 #[Value.int .i64 0, Value.int .i64 0, Value.int .i64 0, Value.int .i64 0, Value.int .i64 0, Value.int .i64 0, Value.int .i64 0, Value.int .i64 0]
      have s3 := good _ g3
      refine hK _ _ s3 (fun _ => trivial) ?_
      clear hK
      have hg := g2.size
      refine until_sole 20 rfl (by kernel_rfl) (by rfl) ?_
      intro K' hK
      go_simp
      go_at_call 27
      refine (cB _ (hP.keep g3) (hQ.keep g3)).mono ?_
      rintro _ w4 ⟨rfl, f4⟩
      go_wp2_with fail
      have g4 : Fr [] w w4 := g3.trans f4
      have s4 := good _ g4
      refine hK _ _ s4 (fun _ => trivial) ?_
      clear hK
      have A4 := f4.keep A3 (by simp)
      refine until_sole 22 rfl (by kernel_rfl) (by rfl) ?_
      intro K' hK
      refine wp_store_row _ _ _ rfl _ _ rfl rfl _ _ A4.out hsz hold hX1 ?_
      have hA := A4.setRow (icells X).toArray
      rw [List.toList_toArray] at hA
      have g0 := g4.new (S := [w2.heap.size]) (Fr.setRow [w2.heap.size] _ w2.heap.size (icells X).toArray (.inl (by simp))) (by intro y hy; simp only [List.mem_singleton] at hy; subst hy; exact hg)
      refine hK _ _ (good _ g0) (fun _ => trivial) ?_
      clear hK
      refine until_done (by kernel_rfl) ?_ _
      go_wp2_with (first
        | refine wpList_load_row rfl _ _ rfl _ rfl _ _ _ _ hA.out Tryd.underlying58 rfl hsz ?_
        | (go_at_call 30; refine (cD _).mono ?_; rintro _ w9 ⟨rfl, f9⟩)
        | fail)
      go_ret
      exact ⟨rfl, g0.trans f9⟩
  · intro K' hK
    go_simp
    have g2 : Fr [] w (w.drew.alloc _) := (Fr.drew [] w).trans (Fr.alloc [] w.drew (.cells #[Value.int .i64 0, Value.int .i64 0, Value.int .i64 0, Value.int .i64 0, Value.int .i64 0, Value.int .i64 0, Value.int .i64 0, Value.int .i64 0] 58))
    have A2 := At.alloc_new w.drew 58 #[Value.int .i64 0, Value.int .i64 0, Value.int .i64 0, Value.int .i64 0, Value.int .i64 0, Value.int .i64 0, Value.int .i64 0, Value.int .i64 0]
    have s2 := good _ g2
    refine hK _ _ s2 (fun _ => trivial) ?_
    clear hK
    have hg := Nat.le_refl w.heap.size
    clear s0
    refine until_sole 18 rfl (by kernel_rfl) (by rfl) ?_
    intro K' hK
    go_simp
    go_at_call 29
    refine (cT _).mono ?_
    rintro _ w3 ⟨rfl, f3⟩
    go_wp2_with fail
    have g3 : Fr [] w w3 := g2.trans f3
    have s3 := good _ g3
    refine hK _ _ s3 (fun _ => trivial) ?_
    clear hK
    have A3 := f3.keep A2 (by simp)
    refine until_s0 19 (v := ?_) rfl (by kernel_rfl) (fun _ _ _ h => h) (Or.inl ⟨by rfl, ?_⟩) (by assumption) (fun h => by first | assumption | exact absurd (h : true = false) (by decide)) ?_
    rotate_left
    · intro w hSw; (try dsimp only at hSw); (try go_simp); (try with_reducible rfl)
    try simp only [Act.put, List.setIfInBounds_toArray, List.set_cons_zero, List.set_cons_succ]
    refine until_sole 20 rfl (by kernel_rfl) (by rfl) ?_
    intro K' hK
    go_simp
    go_at_call 27
    refine (cB _ (hP.keep g3) (hQ.keep g3)).mono ?_
    rintro _ w4 ⟨rfl, f4⟩
    go_wp2_with fail
    have g4 : Fr [] w w4 := g3.trans f4
    have s4 := good _ g4
    refine hK _ _ s4 (fun _ => trivial) ?_
    clear hK
    have A4 := f4.keep A3 (by simp)
    refine until_sole 22 rfl (by kernel_rfl) (by rfl) ?_
    intro K' hK
    refine wp_store_row _ _ _ rfl _ _ rfl rfl _ _ A4.out hsz hold hX1 ?_
    have hA := A4.setRow (icells X).toArray
    rw [List.toList_toArray] at hA
    have g0 := g4.new (S := [w.drew.heap.size]) (Fr.setRow [w.drew.heap.size] _ w.drew.heap.size (icells X).toArray (.inl (by simp))) (by intro y hy; simp only [List.mem_singleton] at hy; subst hy; exact hg)
    refine hK _ _ (good _ g0) (fun _ => trivial) ?_
    clear hK
    refine until_done (by kernel_rfl) ?_ _
    go_wp2_with (first
      | refine wpList_load_row rfl _ _ rfl _ rfl _ _ _ _ hA.out Tryd.underlying58 rfl hsz ?_
      | (go_at_call 30; refine (cD _).mono ?_; rintro _ w9 ⟨rfl, f9⟩)
      | fail)
    go_ret
    exact ⟨rfl, g0.trans f9⟩

theorem quiet_load_row {P : Program} {o : Oper} {act : Act} {C : World → Prop} {K : Act → Prop} (ty : TypeId) (x : Operand) (a : Addr) (v : Value) (ho : o.op = .load ty x) (hx : act.eval x = .pointer (some a)) (h : ∀ w, C w → (loadVar ty a).run P w = .ok v w) (hk : K (act.put o.dst v)) : o.quiet P act C K :=
  ⟨v, fun w hw => by unfold Oper.quietAt; rw [exec_load ho hx (h w hw)]; exact ⟨rfl, rfl⟩, hk⟩
theorem state_str (X : List UInt32) (R : ByteArray) (n m : Nat) (hm : m = 64 * (R.size / 64)) : (⟨(toldL X).toArray⟩ : ByteArray) ++ ⟨(bigL n 8).toArray⟩ ++ R.extract m R.size = ⟨(stateOf X (restOf R.data.toList) n).toArray⟩ := by
  apply ByteArray.ext
  have hl : R.data.toList.length = R.size := by simp
  apply Array.toList_inj.1
  rw [ByteArray.data_append, ByteArray.data_append, ByteArray.data_extract]
  simp only [Array.toList_append, Array.toList_extract, stateOf, restOf, hl, ← hm, List.extract_eq_take_drop, List.append_assoc]
  congr 2
  rw [List.take_of_length_le]
  rw [List.length_drop, hl]
  exact Nat.le_refl _
set_option maxRecDepth 100000 in
set_option maxHeartbeats 4000000 in
theorem rstateh_any (r : Nat) (F : List UInt32) (A : Nat) (R : ByteArray) (hF : F.length = 8) (hs : A + R.size ≤ 1099511627776) (w : World) (hP : Powers w) (hQ : RefRoots w) (h : RH w r F A R) :
    Calls Tryd.prog 35 #[.pointer (some ⟨r, 0, none⟩)] w fun e w' => e = .returned (.string ⟨(stateOf (wordsOf F R.data.toList) (restOf R.data.toList) (A + R.size)).toArray⟩) ∧ Fr [] w w' := by
  obtain ⟨X, hX⟩ : ∃ X, X = wordsOf F R.data.toList := ⟨_, rfl⟩
  have cB : ∀ w, Powers w → RefRoots w → Calls Tryd.prog 27 #[.agg (icells F).toArray, .string R] w fun e w' => e = .returned (.agg (icells X).toArray) ∧ Fr [] w w' := fun w h1 h2 => by
    rw [hX]; exact rblocks_any F hF R (by omega) w h1 h2
  have hXl : X.length = 8 := by rw [hX]; exact wordsOf_len _ _ hF
  have cD := fun w => rtold_any X hXl w
  have cE := fun w => reight_any (A + R.size) (by omega) w
  rw [show ((A + R.size : Nat) : Int) = (A : Int) + R.size by omega] at cE
  obtain ⟨m, hm⟩ : ∃ m, m = 64 * (R.size / 64) := ⟨_, rfl⟩
  have hfin := state_str X R (A + R.size) m hm
  rw [← hX, ← hfin]
  have hl1 : (⟨(toldL X).toArray⟩ : ByteArray).size = 32 := by show (toldL X).toArray.size = 32; rw [List.size_toArray, toldL_len, hXl]
  have hl2 : (⟨(bigL (A + R.size) 8).toArray⟩ : ByteArray).size = 8 := by show (bigL (A + R.size) 8).toArray.size = 8; rw [List.size_toArray, bigL_len]
  generalize (⟨(toldL X).toArray⟩ : ByteArray) = T1 at *
  generalize (⟨(bigL (A + R.size) 8).toArray⟩ : ByteArray) = T2 at *
  have k1 : ¬ 9223372036854775807 < T1.size + T2.size := by omega
  have k2 : ¬ 9223372036854775807 < (T1 ++ T2).size + (R.extract m R.size).size := by rw [ByteArray.size_append, ByteArray.size_extract]; omega
  have hsz : (Tryd.prog.info? 58).map (·.size) = some (icells X).toArray.size := by rw [List.size_toArray, icells_len, hXl]; kernel_rfl
  have hold : [Value.int .i64 0, Value.int .i64 0, Value.int .i64 0, Value.int .i64 0, Value.int .i64 0, Value.int .i64 0, Value.int .i64 0, Value.int .i64 0].toArray.size = (icells X).toArray.size := by rw [List.size_toArray, List.size_toArray, icells_len, hXl]; rfl
  have hX1 := icells_one X
  have w1 : IntKind.i64.wrap ((A : Int) + R.size) = (A : Int) + R.size := IntWalk.i64_in _ (by omega)
  have w7 : (R.size : Int).tmod 64 = ((R.size % 64 : Nat) : Int) := by rw [Int.tmod_eq_emod_of_nonneg (by omega)]; omega
  have w8 : IntKind.i64.wrap ((R.size % 64 : Nat) : Int) = ((R.size % 64 : Nat) : Int) := IntWalk.i64_in _ (by omega)
  have w9 : IntKind.i64.wrap ((R.size : Int) - ((R.size % 64 : Nat) : Int)) = (m : Int) := by rw [show (R.size : Int) - ((R.size % 64 : Nat) : Int) = (m : Int) by omega]; exact IntWalk.i64_in _ (by omega)
  have w10 : wrap64 ((R.size : Int) - (R.size : Int) % 64) = (m : Int) := by
    rw [show (R.size : Int) - (R.size : Int) % 64 = (m : Int) by omega]; exact IntWalk.wrap64_in _ (by omega)
  have k3 : (m : Int) ≤ R.size := by omega
  have good := fun w' => RH.row (w' := w') h hF
  clear hfin hm hX hl1 hl2 hs
  go_enter Tryd.func35, Tryd.ntmps35
  go_wp2_with fail
  refine wp_region_until (fun w' => w'.cell? ⟨r, 8, none⟩ = some (.int .i64 (A : Int)) ∧ w'.cell? ⟨r, 9, none⟩ = some (.string R) ∧ (loadVar 58 ⟨r, 0, none⟩).run Tryd.prog w' = .ok (.agg (icells F).toArray) w' ∧ Fr [] w w') (fun _ => True) 1000 (by rfl) ?_
  have hT1 : True := trivial
  have s0 : _ ∧ _ ∧ _ ∧ _ := good _ (Fr.drew _ _)
  refine until_s0 0 (v := ?_) rfl (by kernel_rfl) (fun _ _ _ h => h) (Or.inl ⟨by rfl, ?_⟩) (by assumption) (fun h => by first | assumption | exact absurd (h : true = false) (by decide)) ?_
  rotate_left
  · intro w hSw; (try dsimp only at hSw); (try go_simp); (try with_reducible rfl)
  try simp only [Act.put, List.setIfInBounds_toArray, List.set_cons_zero, List.set_cons_succ]
  refine until_s0 1 (v := ?_) rfl (by kernel_rfl) (fun _ _ _ h => h) (Or.inl ⟨by rfl, ?_⟩) (by assumption) (fun h => by first | assumption | exact absurd (h : true = false) (by decide)) ?_
  rotate_left
  · intro w hSw; (try dsimp only at hSw); (try go_simp); (try with_reducible rfl)
  try simp only [Act.put, List.setIfInBounds_toArray, List.set_cons_zero, List.set_cons_succ]
  refine until_s0 2 (v := ?_) rfl (by kernel_rfl) (fun _ _ _ h => h) (Or.inl ⟨by rfl, ?_⟩) (by assumption) (fun h => by first | assumption | exact absurd (h : true = false) (by decide)) ?_
  rotate_left
  · intro w hSw; (try dsimp only at hSw); (try go_simp); (try with_reducible rfl)
  try simp only [Act.put, List.setIfInBounds_toArray, List.set_cons_zero, List.set_cons_succ]
  refine until_s0 4 (v := ?_) rfl (by kernel_rfl) (fun _ _ _ h => h) (Or.inl ⟨by rfl, ?_⟩) (by assumption) (fun h => by first | assumption | exact absurd (h : true = false) (by decide)) ?_
  rotate_left
  · intro w hSw; (try dsimp only at hSw); (try go_simp); (try with_reducible rfl)
  try simp only [Act.put, List.setIfInBounds_toArray, List.set_cons_zero, List.set_cons_succ]
  refine until_s0 5 (v := ?_) rfl (by kernel_rfl) (fun _ _ _ h => h) (Or.inl ⟨by rfl, ?_⟩) (by assumption) (fun h => by first | assumption | exact absurd (h : true = false) (by decide)) ?_
  rotate_left
  · intro w hSw; (try dsimp only at hSw); (try go_simp); (try with_reducible rfl)
  try simp only [Act.put, List.setIfInBounds_toArray, List.set_cons_zero, List.set_cons_succ]
  refine until_s0 6 (v := ?_) rfl (by kernel_rfl) (fun _ _ _ h => h) (Or.inl ⟨by rfl, ?_⟩) (by assumption) (fun h => by first | assumption | exact absurd (h : true = false) (by decide)) ?_
  rotate_left
  · intro w hSw; (try dsimp only at hSw); (try go_simp); (try with_reducible rfl)
  try simp only [Act.put, List.setIfInBounds_toArray, List.set_cons_zero, List.set_cons_succ]
  refine until_s0 7 (v := ?_) rfl (by kernel_rfl) (fun _ _ _ h => h) (Or.inl ⟨by rfl, ?_⟩) (by assumption) (fun h => by first | assumption | exact absurd (h : true = false) (by decide)) ?_
  rotate_left
  · intro w hSw; (try dsimp only at hSw); (try go_simp); (try with_reducible rfl)
  try simp only [Act.put, List.setIfInBounds_toArray, List.set_cons_zero, List.set_cons_succ]
  refine until_s0 3 (v := .agg (icells F).toArray) rfl (by kernel_rfl) (fun _ _ _ h => h) (Or.inl ⟨by rfl, fun w' hS => exec_load rfl rfl hS.2.2.1⟩) (by assumption) (fun h => by first | assumption | exact absurd (h : true = false) (by decide)) ?_
  try simp only [Act.put, List.setIfInBounds_toArray, List.set_cons_zero, List.set_cons_succ]
  have hend : ∃ g, g = w.heap.size := ⟨_, rfl⟩
  clear hend
  refine until_two (i := 8) (j := 9) rfl rfl (by kernel_rfl) (by rfl) (by rfl) ?_ ?_
  · intro K' hK
    go_simp
    go_at_call 27
    refine (cB _ (hP.keep (Fr.drew [] w)) (hQ.keep (Fr.drew [] w))).mono ?_
    rintro _ w3 ⟨rfl, f3⟩
    go_wp2_with fail
    have g3 := (Fr.drew [] w).trans f3
    have s3 := good _ g3
    refine hK _ _ s3 (fun _ => trivial) ?_
    clear hK
    have hg := g3.size
    refine until_sole 9 rfl (by kernel_rfl) (by rfl) ?_
    intro K' hK
    go_simp
    have g4 : Fr [] w (w3.alloc _) := (g3).trans (Fr.alloc [] w3 (.cells #[Value.int .i64 0, Value.int .i64 0, Value.int .i64 0, Value.int .i64 0, Value.int .i64 0, Value.int .i64 0, Value.int .i64 0, Value.int .i64 0] 58))
    have A4 := At.alloc_new w3 58 #[Value.int .i64 0, Value.int .i64 0, Value.int .i64 0, Value.int .i64 0, Value.int .i64 0, Value.int .i64 0, Value.int .i64 0, Value.int .i64 0]
    have s4 := good _ g4
    refine hK _ _ s4 (fun _ => trivial) ?_
    clear hK
    refine until_sole 10 rfl (by kernel_rfl) (by rfl) ?_
    intro K' hK
    refine wp_store_row _ _ _ rfl _ _ rfl rfl _ _ A4.out hsz hold hX1 ?_
    have hA := A4.setRow (icells X).toArray
    rw [List.toList_toArray] at hA
    have g0 := g4.new (S := [w3.heap.size]) (Fr.setRow [w3.heap.size] _ w3.heap.size (icells X).toArray (.inl (by simp))) (by intro y hy; simp only [List.mem_singleton] at hy; subst hy; exact hg)
    generalize w3.heap.size = g at hA g0 ⊢
    generalize ((w3.alloc _).setRow g _) = W at hA g0 ⊢
    have s5 := good _ g0
    refine hK _ _ s5 (fun _ => trivial) ?_
    clear hK g4 A4 hg
    refine until_done (by kernel_rfl) ?_ _
    have c8 := s5.1
    have c9 := s5.2.1
    have g0' := Lib.hid g0
    go_wp2_with fail
    obtain ⟨G, hG⟩ : ∃ G : World → Prop, G = fun w' => Fr [] w w' ∧ At w' g 58 (icells X) := ⟨_, rfl⟩
    have gW : ∀ w', G w' ↔ (Fr [] w w' ∧ At w' g 58 (icells X)) := fun w' => by rw [hG]
    clear hG
    have q8 : ∀ x : Gw G, x.w.cell? ⟨r, 8, none⟩ = some (.int .i64 (A : Int)) := fun x => (good _ ((gW _).1 x.ok).1).1
    have q9 : ∀ x : Gw G, x.w.cell? ⟨r, 9, none⟩ = some (.string R) := fun x => (good _ ((gW _).1 x.ok).1).2.1
    have qr : ∀ w', (∃ x : Gw G, w' = x.w) → (loadVar 58 ⟨g, 0, none⟩).run Tryd.prog w' = .ok (.agg (icells X).toArray) w' := by
      rintro _ ⟨x, rfl⟩
      exact eight_row hXl ((gW _).1 x.ok).2
    have g1 : ∀ (x : Gw G) w', Fr [] x.w w' → G w' := fun x w' f => (gW _).2 ⟨((gW _).1 x.ok).1.trans f, f.keep ((gW _).1 x.ok).2 (by simp)⟩
    have gz : G W.drew := (gW _).2 ⟨g0.trans (Fr.drew _ _), hA.drew⟩
    have ne : Nonempty (Gw G) := ⟨⟨_, gz⟩⟩
    clear good h c8 c9 hA g0 s5
    refine wp_region_gw G (by kernel_rfl) (by kernel_rfl) gz ?_
    go_big_quiet_want
    refine quiet_load_row _ _ _ _ rfl rfl qr ?_
    go_big_quiet_on
    simp only [Act.put, List.setIfInBounds_toArray, List.set_cons_zero, List.set_cons_succ]
    repeat (go_big_quiet_step (first
      | (go_at_call 30; exact gw_call (cD _) (g1 _))
      | (go_at_call 45; exact gw_call (cE _) (g1 _))))
    refine wpQuiet_nil ?_
    rintro _ ⟨x, rfl⟩
    have f := ((gW _).1 x.ok).1
    go_wp2_with fail
    go_ret
    exact ⟨rfl, f⟩
  · intro K' hK
    go_simp
    have g2 : Fr [] w (w.drew.alloc _) := (Fr.drew [] w).trans (Fr.alloc [] w.drew (.cells #[Value.int .i64 0, Value.int .i64 0, Value.int .i64 0, Value.int .i64 0, Value.int .i64 0, Value.int .i64 0, Value.int .i64 0, Value.int .i64 0] 58))
    have A4 := At.alloc_new w.drew 58 #[Value.int .i64 0, Value.int .i64 0, Value.int .i64 0, Value.int .i64 0, Value.int .i64 0, Value.int .i64 0, Value.int .i64 0, Value.int .i64 0]
    have s2 := good _ g2
    refine hK _ _ s2 (fun _ => trivial) ?_
    clear hK
    change At _ w.heap.size _ _ at A4
    have hg := Nat.le_refl w.heap.size
    refine until_sole 8 rfl (by kernel_rfl) (by rfl) ?_
    intro K' hK
    go_simp
    go_at_call 27
    refine (cB _ (hP.keep (g2)) (hQ.keep (g2))).mono ?_
    rintro _ w3 ⟨rfl, f3⟩
    go_wp2_with fail
    have g4 := (g2).trans f3
    have s4 := good _ g4
    refine hK _ _ s4 (fun _ => trivial) ?_
    clear hK
    replace A4 := f3.keep A4 (by simp)
    refine until_sole 10 rfl (by kernel_rfl) (by rfl) ?_
    intro K' hK
    refine wp_store_row _ _ _ rfl _ _ rfl rfl _ _ A4.out hsz hold hX1 ?_
    have hA := A4.setRow (icells X).toArray
    rw [List.toList_toArray] at hA
    have g0 := g4.new (S := [w.heap.size]) (Fr.setRow [w.heap.size] _ w.heap.size (icells X).toArray (.inl (by simp))) (by intro y hy; simp only [List.mem_singleton] at hy; subst hy; exact hg)
    generalize w.heap.size = g at hA g0 ⊢
    generalize (w3.setRow g _) = W at hA g0 ⊢
    have s5 := good _ g0
    refine hK _ _ s5 (fun _ => trivial) ?_
    clear hK g4 A4 hg
    refine until_done (by kernel_rfl) ?_ _
    have c8 := s5.1
    have c9 := s5.2.1
    have g0' := Lib.hid g0
    go_wp2_with fail
    obtain ⟨G, hG⟩ : ∃ G : World → Prop, G = fun w' => Fr [] w w' ∧ At w' g 58 (icells X) := ⟨_, rfl⟩
    have gW : ∀ w', G w' ↔ (Fr [] w w' ∧ At w' g 58 (icells X)) := fun w' => by rw [hG]
    clear hG
    have q8 : ∀ x : Gw G, x.w.cell? ⟨r, 8, none⟩ = some (.int .i64 (A : Int)) := fun x => (good _ ((gW _).1 x.ok).1).1
    have q9 : ∀ x : Gw G, x.w.cell? ⟨r, 9, none⟩ = some (.string R) := fun x => (good _ ((gW _).1 x.ok).1).2.1
    have qr : ∀ w', (∃ x : Gw G, w' = x.w) → (loadVar 58 ⟨g, 0, none⟩).run Tryd.prog w' = .ok (.agg (icells X).toArray) w' := by
      rintro _ ⟨x, rfl⟩
      exact eight_row hXl ((gW _).1 x.ok).2
    have g1 : ∀ (x : Gw G) w', Fr [] x.w w' → G w' := fun x w' f => (gW _).2 ⟨((gW _).1 x.ok).1.trans f, f.keep ((gW _).1 x.ok).2 (by simp)⟩
    have gz : G W.drew := (gW _).2 ⟨g0.trans (Fr.drew _ _), hA.drew⟩
    have ne : Nonempty (Gw G) := ⟨⟨_, gz⟩⟩
    clear good h c8 c9 hA g0 s5
    refine wp_region_gw G (by kernel_rfl) (by kernel_rfl) gz ?_
    go_big_quiet_want
    refine quiet_load_row _ _ _ _ rfl rfl qr ?_
    go_big_quiet_on
    simp only [Act.put, List.setIfInBounds_toArray, List.set_cons_zero, List.set_cons_succ]
    repeat (go_big_quiet_step (first
      | (go_at_call 30; exact gw_call (cD _) (g1 _))
      | (go_at_call 45; exact gw_call (cE _) (g1 _))))
    refine wpQuiet_nil ?_
    rintro _ ⟨x, rfl⟩
    have f := ((gW _).1 x.ok).1
    go_wp2_with fail
    go_ret
    exact ⟨rfl, f⟩
end Go.Proofs.YtkagmoaapampgaaDoor
