/- The running sum's Write, Count and State; each of them of nil. -/
import Derived.Test.YtkagmoaapampgaaDoorShaSums
import Derived.Test.YtkagmoaapampgaaDoorUntil
namespace Go.Proofs.YtkagmoaapampgaaDoor
open Go.RowKit Go.Lib Go.Joins Base
set_option linter.unusedVariables false
set_option linter.unusedSimpArgs false

theorem str_app (a b : List UInt8) : (⟨a.toArray⟩ : ByteArray) ++ ⟨b.toArray⟩ = ⟨(a ++ b).toArray⟩ := by
  apply ByteArray.ext
  rw [ByteArray.data_append]
  simp
theorem write_nil (d : ByteArray) (w : World) : Calls Tryd.prog 23 #[.pointer none, .string d] w fun e w' => e = .returned (.int .i64 2) ∧ Fr [] w w' := by
  go_enter Tryd.func23, Tryd.ntmps23
  go_wp2_with fail
  go_ret
  exact ⟨rfl, Fr.refl _ _⟩
theorem sum_nil (w : World) : Calls Tryd.prog 24 #[.pointer none] w fun e w' => e = .returned (.string ⟨#[]⟩) ∧ Fr [] w w' := by
  go_enter Tryd.func24, Tryd.ntmps24
  go_wp2_with fail
  go_ret
  exact ⟨rfl, Fr.refl _ _⟩
theorem count_nil (w : World) : Calls Tryd.prog 25 #[.pointer none] w fun e w' => e = .returned (.int .i64 0) ∧ Fr [] w w' := by
  go_enter Tryd.func25, Tryd.ntmps25
  go_wp2_with fail
  go_ret
  exact ⟨rfl, Fr.refl _ _⟩
theorem state_nil (w : World) : Calls Tryd.prog 20 #[.pointer none] w fun e w' => e = .returned (.string ⟨#[]⟩) ∧ Fr [] w w' := by
  go_enter Tryd.func20, Tryd.ntmps20
  go_wp2_with fail
  go_ret
  exact ⟨rfl, Fr.refl _ _⟩

theorem hcells72 (H : List UInt32) (t : List UInt8) (n : Nat) (h1 : H.length = 8) (h2 : t.length = 64) : (hcells H t n)[72]? = some (.int .i64 n) := by
  unfold hcells
  rw [List.getElem?_append_right (by simp [wcells_len, byteCells_length]; omega)]
  simp [wcells_len, byteCells_length, h1, h2]
theorem count_any (H : List UInt32) (rest : List UInt8) (n b : Nat) (w : World) (h : Hold w b H rest n) :
    Calls Tryd.prog 25 #[.pointer (some ⟨b, 0, none⟩)] w fun e w' => e = .returned (.int .i64 n) ∧ Fr [] w w' := by
  obtain ⟨hb, hH, hr, tail, htl, htk, hA⟩ := h
  have c72 := hA.cell 72
  rw [hcells72 _ _ _ hH htl] at c72
  go_enter Tryd.func25, Tryd.ntmps25
  go_wp2_with fail
  go_ret
  exact ⟨rfl, Fr.refl _ _⟩
set_option maxRecDepth 100000 in
set_option maxHeartbeats 1000000 in
theorem write_any (H : List UInt32) (rest : List UInt8) (n b : Nat) (d : ByteArray) (hn : n ≤ 1099511627776) (w : World) (hR : Roots w) (h : Hold w b H rest n) :
    Calls Tryd.prog 23 #[.pointer (some ⟨b, 0, none⟩), .string d] w fun e w' =>
      (1099511627776 < n + d.size ∧ e = .returned (.int .i64 3) ∧ Fr [] w w') ∨ (n + d.size ≤ 1099511627776 ∧ e = .returned (.int .i64 0) ∧ Hold w' b (wordsOf H (rest ++ d.data.toList)) (restOf (rest ++ d.data.toList)) (n + d.size) ∧ Fr [b] w w') := by
  have h' := h
  obtain ⟨hb, hH, hr, tail, htl, htk, hA⟩ := h
  have c72 := hA.cell 72
  rw [hcells72 _ _ _ hH htl] at c72
  have w1 : IntKind.i64.wrap (1099511627776 - (n : Int)) = 1099511627776 - (n : Int) := IntWalk.i64_in _ (by omega)
  by_cases hl : 1099511627776 < n + d.size
  · have l1 : 1099511627776 - (n : Int) < d.size := by omega
    go_enter Tryd.func23, Tryd.ntmps23
    go_wp2_with fail
    go_ret
    exact .inl ⟨hl, rfl, Fr.refl _ _⟩
  · have l1 : ¬ 1099511627776 - (n : Int) < d.size := by omega
    have ht := take_any H rest n b d (by omega) w hR h'
    have HL := Lib.hid hl
    clear hl
    go_enter Tryd.func23, Tryd.ntmps23
    go_wp2_with (first
      | (go_at_call 26; refine ht.mono ?_; rintro e w3 ⟨rfl, h3, f3⟩)
      | fail)
    go_ret
    exact .inr ⟨by have := HL.out; omega, rfl, h3, f3⟩

set_option maxRecDepth 100000 in
set_option maxHeartbeats 1000000 in
theorem state_any (H : List UInt32) (rest : List UInt8) (n b : Nat) (hn : n ≤ 1152921504606846976) (w : World) (h : Hold w b H rest n) :
    Calls Tryd.prog 20 #[.pointer (some ⟨b, 0, none⟩)] w fun e w' => e = .returned (.string ⟨(stateOf H rest n).toArray⟩) ∧ Fr [] w w' := by
  obtain ⟨hb, hH, hr, tail, htl, htk, hA⟩ := h
  have c72 := hA.cell 72
  rw [hcells72 _ _ _ hH htl] at c72
  have hrl : rest.length < 64 := by omega
  have hcv : ∀ w c, At w b 75 (hcells H tail n) → (convert 28 9 (.slice (some ⟨b, 8, none⟩) rest.length c)).run Tryd.prog w = .ok (.string ⟨rest.toArray⟩) w := by
    intro w c h
    have e : hcells H tail n = wcells H ++ byteCells rest ++ (byteCells (tail.drop rest.length) ++ [.int .i64 n]) := by
      have : tail = rest ++ tail.drop rest.length := by
        conv => lhs; rw [← List.take_append_drop rest.length tail, htk]
      unfold hcells
      conv => lhs; rw [this]
      simp [byteCells]
    rw [e] at h
    exact run_strB (P := Tryd.prog) (d := 9) Tryd.underlying28 Tryd.underlying5 Tryd.underlying9 w b 8 c _ rest (wcells H) _ h (by rw [wcells_len, hH]) _ rfl
  have w1 : (n : Int).tmod 64 = (rest.length : Int) := by rw [Int.tmod_eq_emod_of_nonneg (by omega)]; omega
  have w3 : IntKind.u64.wrap (n : Int) = n := wrap64_nat n (by omega)
  have k1 : (0 : Int) ≤ rest.length := by omega
  have k2 : (rest.length : Int) ≤ 64 := by omega
  clear hr
  go_enter Tryd.func20, Tryd.ntmps20
  go_wp2_with fail
  refine wp_region_until (fun w' => At w' b 75 (hcells H tail n) ∧ w'.cell? ⟨b, 72, none⟩ = some (.int .i64 n)) (fun _ => True) 1000 (by rfl) ?_
  have hT : True := trivial
  have s0 : At w b 75 (hcells H tail n) ∧ w.cell? ⟨b, 72, none⟩ = some (.int .i64 n) := ⟨hA, c72⟩
  refine until_s0 0 (v := ?_) rfl (by kernel_rfl) (fun _ _ _ h => h) (Or.inl ⟨by rfl, ?_⟩) (by assumption) (fun h => by first | assumption | exact absurd (h : true = false) (by decide)) ?_
  rotate_left
  · intro w hSw; (try dsimp only at hSw); (try go_simp); (try with_reducible rfl)
  try simp only [Act.put, List.setIfInBounds_toArray, List.set_cons_zero, List.set_cons_succ]
  refine until_s0 1 (v := ?_) rfl (by kernel_rfl) (fun _ _ _ h => h) (Or.inl ⟨by rfl, ?_⟩) (by assumption) (fun h => by first | assumption | exact absurd (h : true = false) (by decide)) ?_
  rotate_left
  · intro w hSw; (try dsimp only at hSw); (try go_simp); (try with_reducible rfl)
  try simp only [Act.put, List.setIfInBounds_toArray, List.set_cons_zero, List.set_cons_succ]
  refine until_s0 2 (v := ?_) rfl (by kernel_rfl) (fun _ _ _ h => h) (Or.inl ⟨by rfl, ?_⟩) (by assumption) (fun h => by first | assumption | exact absurd (h : true = false) (by decide)) ?_
  rotate_left
  · intro w hSw; (try dsimp only at hSw); (try go_simp); (try with_reducible rfl)
  try simp only [Act.put, List.setIfInBounds_toArray, List.set_cons_zero, List.set_cons_succ]
  refine until_s0 5 (v := ?_) rfl (by kernel_rfl) (fun _ _ _ h => h) (Or.inl ⟨by rfl, ?_⟩) (by assumption) (fun h => by first | assumption | exact absurd (h : true = false) (by decide)) ?_
  rotate_left
  · intro w hSw; (try dsimp only at hSw); (try go_simp); (try with_reducible rfl)
  try simp only [Act.put, List.setIfInBounds_toArray, List.set_cons_zero, List.set_cons_succ]
  refine until_s0 6 (v := ?_) rfl (by kernel_rfl) (fun _ _ _ h => h) (Or.inl ⟨by rfl, ?_⟩) (by assumption) (fun h => by first | assumption | exact absurd (h : true = false) (by decide)) ?_
  rotate_left
  · intro w hSw; (try dsimp only at hSw); (try go_simp); (try with_reducible rfl)
  try simp only [Act.put, List.setIfInBounds_toArray, List.set_cons_zero, List.set_cons_succ]
  refine until_s0 7 (v := ?_) rfl (by kernel_rfl) (fun _ _ _ h => h) (Or.inl ⟨by rfl, ?_⟩) (by assumption) (fun h => by first | assumption | exact absurd (h : true = false) (by decide)) ?_
  rotate_left
  · intro w hSw; (try dsimp only at hSw); (try go_simp); (try with_reducible rfl)
  try simp only [Act.put, List.setIfInBounds_toArray, List.set_cons_zero, List.set_cons_succ]
  refine until_s0 8 (v := ?_) rfl (by kernel_rfl) (fun _ _ _ h => h) (Or.inl ⟨by rfl, ?_⟩) (by assumption) (fun h => by first | assumption | exact absurd (h : true = false) (by decide)) ?_
  rotate_left
  · intro w hSw; (try dsimp only at hSw); (try go_simp); (try with_reducible rfl)
  try simp only [Act.put, List.setIfInBounds_toArray, List.set_cons_zero, List.set_cons_succ]
  refine until_s0 9 (v := ?_) rfl (by kernel_rfl) (fun _ _ _ h => h) (Or.inl ⟨by rfl, ?_⟩) (by assumption) (fun h => by first | assumption | exact absurd (h : true = false) (by decide)) ?_
  rotate_left
  · intro w hSw; (try dsimp only at hSw); (try go_simp); (try with_reducible rfl)
  try simp only [Act.put, List.setIfInBounds_toArray, List.set_cons_zero, List.set_cons_succ]
  refine until_s0 13 (v := ?_) rfl (by kernel_rfl) (fun _ _ _ h => h) (Or.inl ⟨by rfl, ?_⟩) (by assumption) (fun h => by first | assumption | exact absurd (h : true = false) (by decide)) ?_
  rotate_left
  · intro w hSw; (try dsimp only at hSw); (try go_simp); (try with_reducible rfl)
  try simp only [Act.put, List.setIfInBounds_toArray, List.set_cons_zero, List.set_cons_succ]
  refine until_s0 14 (v := ?_) rfl (by kernel_rfl) (fun _ _ _ h => h) (Or.inl ⟨by rfl, ?_⟩) (by assumption) (fun h => by first | assumption | exact absurd (h : true = false) (by decide)) ?_
  rotate_left
  · intro w hSw; (try dsimp only at hSw); (try go_simp); (try with_reducible rfl)
  try simp only [Act.put, List.setIfInBounds_toArray, List.set_cons_zero, List.set_cons_succ]
  refine until_s0 15 (v := ?_) rfl (by kernel_rfl) (fun _ _ _ h => h) (Or.inl ⟨by rfl, ?_⟩) (by assumption) (fun h => by first | assumption | exact absurd (h : true = false) (by decide)) ?_
  rotate_left
  · intro w hSw; (try dsimp only at hSw); (try go_simp); (try with_reducible rfl)
  try simp only [Act.put, List.setIfInBounds_toArray, List.set_cons_zero, List.set_cons_succ]
  refine until_s0 16 (v := ?_) rfl (by kernel_rfl) (fun _ _ _ h => h) (Or.inl ⟨by rfl, ?_⟩) (by assumption) (fun h => by first | assumption | exact absurd (h : true = false) (by decide)) ?_
  rotate_left
  · intro w hSw; (try dsimp only at hSw); (try go_simp); (try with_reducible rfl)
  try simp only [Act.put, List.setIfInBounds_toArray, List.set_cons_zero, List.set_cons_succ]
  refine until_s0 17 (v := ?_) rfl (by kernel_rfl) (fun _ _ _ h => h) (Or.inl ⟨by rfl, ?_⟩) (by assumption) (fun h => by first | assumption | exact absurd (h : true = false) (by decide)) ?_
  rotate_left
  · intro w hSw; (try dsimp only at hSw); (try go_simp); (try with_reducible rfl)
  try simp only [Act.put, List.setIfInBounds_toArray, List.set_cons_zero, List.set_cons_succ]
  refine until_s0 18 (v := ?_) rfl (by kernel_rfl) (fun _ _ _ h => h) (Or.inl ⟨by rfl, ?_⟩) (by assumption) (fun h => by first | assumption | exact absurd (h : true = false) (by decide)) ?_
  rotate_left
  · intro w hSw; (try dsimp only at hSw); (try go_simp); (try with_reducible rfl)
  try simp only [Act.put, List.setIfInBounds_toArray, List.set_cons_zero, List.set_cons_succ]
  refine until_s0 19 (v := ?_) rfl (by kernel_rfl) (fun _ _ _ h => h) (Or.inl ⟨by rfl, ?_⟩) (by assumption) (fun h => by first | assumption | exact absurd (h : true = false) (by decide)) ?_
  rotate_left
  · intro w hSw; (try dsimp only at hSw); (try go_simp); (try with_reducible rfl)
  try simp only [Act.put, List.setIfInBounds_toArray, List.set_cons_zero, List.set_cons_succ]
  refine until_s0 20 (v := ?_) rfl (by kernel_rfl) (fun _ _ _ h => h) (Or.inl ⟨by rfl, ?_⟩) (by assumption) (fun h => by first | assumption | exact absurd (h : true = false) (by decide)) ?_
  rotate_left
  · intro w hSw; (try dsimp only at hSw); (try go_simp); (try with_reducible rfl)
  try simp only [Act.put, List.setIfInBounds_toArray, List.set_cons_zero, List.set_cons_succ]
  refine until_s0 21 (v := ?_) rfl (by kernel_rfl) (fun _ _ _ h => h) (Or.inl ⟨by rfl, ?_⟩) (by assumption) (fun h => by first | assumption | exact absurd (h : true = false) (by decide)) ?_
  rotate_left
  · intro w hSw; (try dsimp only at hSw); (try go_simp); (try with_reducible rfl)
  try simp only [Act.put, List.setIfInBounds_toArray, List.set_cons_zero, List.set_cons_succ]
  refine until_s0 22 (v := ?_) rfl (by kernel_rfl) (fun _ _ _ h => h) (Or.inl ⟨by rfl, ?_⟩) (by assumption) (fun h => by first | assumption | exact absurd (h : true = false) (by decide)) ?_
  rotate_left
  · intro w hSw; (try dsimp only at hSw); (try go_simp); (try with_reducible rfl)
  try simp only [Act.put, List.setIfInBounds_toArray, List.set_cons_zero, List.set_cons_succ]
  refine until_s0 3 (v := .agg (wcells H).toArray) rfl (by kernel_rfl) (fun _ _ _ h => h) (yieldsIf_load_mid (by rfl) _ _ rfl b 0 rfl (wcells H) _ (fun w h => state_range h.1) Tryd.underlying72 rfl (by rw [wcells_len, hH]; kernel_rfl)) (by assumption) (fun h => by assumption) ?_
  try simp only [Act.put, List.setIfInBounds_toArray, List.set_cons_zero, List.set_cons_succ]
  refine until_sole 4 rfl (by kernel_rfl) (by rfl) ?_
  intro K' hK
  go_simp
  go_at_call 41
  refine (words_any H hH _).mono ?_
  rintro _ w2 ⟨rfl, f2⟩
  go_wp2_with fail
  have A2 := f2.keep s0.1.drew (by simp)
  have s2 : At w2 b 75 (hcells H tail n) ∧ w2.cell? ⟨b, 72, none⟩ = some (.int .i64 n) := ⟨A2, by rw [A2.cell, hcells72 _ _ _ hH htl]⟩
  refine hK _ _ s2 (fun _ => trivial) ?_
  clear hK s0
  skip
  refine until_sole 10 rfl (by kernel_rfl) (by rfl) ?_
  intro K' hK
  go_simp
  go_at_call 42
  have hs2 : w.heap.size ≤ w2.heap.size := f2.size
  refine (big_any w.heap.size [] 0 (.slice none 0 0) n (by omega) 8 (by omega) (by omega) w2 (World.ownsRow_nil _ _ _ _) hs2).mono ?_
  rintro _ w3 ⟨v3, rfl, o3, b3⟩
  have F3 : Fr [] w w3 := Fr.ofBelow (((Fr.drew [] w).trans f2).below.trans b3)
  have A3 := F3.keep hA (by simp)
  have s3 : At w3 b 75 (hcells H tail n) ∧ w3.cell? ⟨b, 72, none⟩ = some (.int .i64 n) := ⟨A3, by rw [A3.cell, hcells72 _ _ _ hH htl]⟩
  have hcv2 := run_strOwn Tryd.underlying28 Tryd.underlying5 Tryd.underlying9 o3
  go_wp2_with fail
  refine hK _ _ s3 (fun _ => trivial) ?_
  clear hK s2
  skip
  refine until_sole 11 rfl (by kernel_rfl) (by rfl) ?_
  intro K' hK
  go_simp
  refine hK _ _ s3 (fun _ => trivial) ?_
  clear hK
  have l1 : (toldL H).length = 32 := by rw [toldL_len, hH]
  have l2 : (bigL n 8).length = 8 := bigL_len n 8
  have l3 : ¬ 9223372036854775807 < 40 + rest.length := by omega
  refine until_s0 12 (v := ?_) rfl (by kernel_rfl) (fun _ _ _ h => h) (Or.inl ⟨by rfl, ?_⟩) (by assumption) (fun h => by first | assumption | exact absurd (h : true = false) (by decide)) ?_
  rotate_left
  · intro w hSw; (try dsimp only at hSw); (try go_simp); (try with_reducible rfl)
  try simp only [Act.put, List.setIfInBounds_toArray, List.set_cons_zero, List.set_cons_succ]
  refine until_s0 23 (v := ?_) rfl (by kernel_rfl) (fun _ _ _ h => h) (Or.inl ⟨by rfl, ?_⟩) (by assumption) (fun h => by first | assumption | exact absurd (h : true = false) (by decide)) ?_
  rotate_left
  · intro w hSw; (try dsimp only at hSw); (try go_simp); (try with_reducible rfl)
  try simp only [Act.put, List.setIfInBounds_toArray, List.set_cons_zero, List.set_cons_succ]
  refine until_s0 24 (v := ?_) rfl (by kernel_rfl) (fun _ _ _ h => h) (Or.inl ⟨by rfl, ?_⟩) (by assumption) (fun h => by first | assumption | exact absurd (h : true = false) (by decide)) ?_
  rotate_left
  · intro w hSw; (try dsimp only at hSw); (try go_simp); (try with_reducible rfl)
  try simp only [Act.put, List.setIfInBounds_toArray, List.set_cons_zero, List.set_cons_succ]
  refine until_done (by kernel_rfl) ?_ _
  go_wp2_with fail
  go_ret
  refine ⟨?_, F3⟩
  rw [str_app, str_app]
  rfl
end Go.Proofs.YtkagmoaapampgaaDoor
