/- The document's schedule: the 64 words of a block. -/
import Derived.Test.YtkagmoaapampgaaDoorRef2
namespace Go.Proofs.YtkagmoaapampgaaDoor
open Go.RowKit Go.Lib Go.Joins Base
set_option linter.unusedVariables false
set_option linter.unusedSimpArgs false

/-- Words as ints. -/
def icells (s : List UInt32) : List Value := s.map fun x => .int .i64 (wd x)
theorem icells_get (s : List UInt32) (i : Nat) (h : i < s.length) : (icells s)[i]? = some (.int .i64 (wd (s.getD i 0))) := by
  simp [icells, List.getD, h]
theorem icells_set (s : List UInt32) (i : Nat) (x : UInt32) : (icells s).set i (.int .i64 (wd x)) = icells (s.set i x) := by
  simp [icells, List.map_set]
theorem icells_len (s : List UInt32) : (icells s).length = s.length := by simp [icells]
theorem icells_one (s : List UInt32) : (icells s).toArray.all (·.oneCell') = true := all_oneCell_toArray (by intro v hv; obtain ⟨x, _, rfl⟩ := List.mem_map.1 hv; rfl)
section
variable (t : TypeId) (a b c d : UInt32)
theorem addI3 : binOp .add t (.int .i64 (wd a + wd b)) (.int .i64 (wd c)) = pure (.int .i64 (wd a + wd b + wd c)) := by
  have := wd_lt a; have := wd_lt b; have := wd_lt c
  rw [binOp_add]; show pure (Value.int .i64 (IntKind.i64.wrap _)) = _; rw [IntWalk.i64_in _ (by omega)]
theorem addI4 : binOp .add t (.int .i64 (wd a + wd b + wd c)) (.int .i64 (wd d)) = pure (.int .i64 (wd a + wd b + wd c + wd d)) := by
  have := wd_lt a; have := wd_lt b; have := wd_lt c; have := wd_lt d
  rw [binOp_add]; show pure (Value.int .i64 (IntKind.i64.wrap _)) = _; rw [IntWalk.i64_in _ (by omega)]
theorem remI4 : binOp .rem t (.int .i64 (wd a + wd b + wd c + wd d)) (.int .i64 4294967296) = pure (.int .i64 (wd (a + b + c + d))) := by
  have h1 := wd_lt a; have h2 := wd_lt b; have h3 := wd_lt c; have h4 := wd_lt d
  have e : (wd a + wd b + wd c + wd d) % 4294967296 = wd (a + b + c + d) := by
    unfold wd; simp only [UInt32.toNat_add]; omega
  rw [← e]
  simp [binOp, Op.intDiv]
  rw [Int.tmod_eq_emod_of_nonneg (by omega)]
end

set_option maxRecDepth 100000 in
set_option maxHeartbeats 2000000 in
theorem schedule_any (s : ByteArray) (at0 : Nat) (hs : at0 + 64 ≤ s.size) (hs63 : s.size ≤ 4611686018427387904) (w : World) (hP : Powers w) :
    Calls Tryd.prog 48 #[.string s, .int .i64 at0] w fun e w' => e = .returned (.agg (icells (sch (wordsB ((s.data.toList.drop at0).take 64)) 48)).toArray) ∧ Fr [] w w' := by
  obtain ⟨S, hS⟩ : ∃ S, S = s.data.toList := ⟨_, rfl⟩
  have hSl : S.length = s.size := by rw [hS]; simp
  obtain ⟨B, hB⟩ : ∃ B, B = (S.drop at0).take 64 := ⟨_, rfl⟩
  have hBl : B.length = 64 := by rw [hB]; simp; omega
  have hW := wordsB_len 16 B (by omega)
  rw [← hS, ← hB]
  have HS := Lib.hid (And.intro hS (And.intro hSl hB))
  clear hS hSl hB
  have hz0 : wcells [] = [] := rfl
  go_enter Tryd.func48, Tryd.ntmps48
  go_wp2_with fail
  go_loopw [6] (fun v wr => ∃ i : Nat, i ≤ 16 ∧ v = .int .i64 i ∧ At wr (w.heap.size + 1) 87 (icells (padW ((wordsB B).take i))) ∧ At wr w.heap.size 87 (List.replicate 64 (.int .i64 0)) ∧ Fr [] w wr) (fun v _ => 16 - (intOf v).toNat)
  case atStart =>
    refine ⟨0, by omega, rfl, ?_, ?_, ?_⟩
    · have := At.alloc_new (w.alloc (.cells (List.replicate 64 (Value.int .i64 0)).toArray 87)) 87 (List.replicate 64 (Value.int .i64 0)).toArray
      have e : icells (padW ((wordsB B).take 0)) = List.replicate 64 (Value.int .i64 0) := by rw [List.take_zero]; rfl
      rw [e]
      simpa using this
    · have := (At.alloc_new w 87 (List.replicate 64 (Value.int .i64 0)).toArray).alloc (.cells (List.replicate 64 (Value.int .i64 0)).toArray 87)
      simpa using this
    · exact (Fr.alloc _ _ _).trans (Fr.alloc _ _ _)
  case round =>
    obtain ⟨i, hi, rfl, h5, h4, hF⟩ := hrel
    by_cases hl : i < 16
    · obtain ⟨a, b, c, d, r, hd, hgt⟩ := wordsB_get i B (by omega)
      obtain ⟨hS, hSl, hB⟩ := HS.out
      have hd2 : s.data.toList.drop (at0 + 4 * i) = a :: b :: c :: d :: (r ++ S.drop (at0 + 64)) := by
        have e : S.drop (at0 + 4 * i) = B.drop (4 * i) ++ S.drop (at0 + 64) := by
          have e1 : S.drop at0 = B ++ S.drop (at0 + 64) := by
            rw [hB, ← List.drop_drop]
            exact (List.take_append_drop 64 (S.drop at0)).symm
          rw [← List.drop_drop, e1, List.drop_append_of_le_length (by omega)]
        rw [← hS, e, hd]; rfl
      have hf4 : ∀ w, Calls Tryd.prog 51 #[.string s, .int .i64 ((at0 : Int) + 4 * (i : Int))] w _ := fun w => by
        have := rfour_any s (at0 + 4 * i) a b c d _ hd2 (by omega) w
        rw [show ((at0 + 4 * i : Nat) : Int) = (at0 : Int) + 4 * (i : Int) by omega] at this
        exact this
      have l1 : (i : Int) < 16 := by omega
      have l2 : (i : Int) < 64 := by omega
      have w1 : IntKind.i64.wrap (4 * (i : Int)) = 4 * (i : Int) := IntWalk.i64_in _ (by omega)
      have w2 : IntKind.i64.wrap ((at0 : Int) + 4 * (i : Int)) = (at0 : Int) + 4 * (i : Int) := IntWalk.i64_in _ (by omega)
      have hk : ((wordsB B).take i).length = i := by simp; omega
      have hset := padW_set ((wordsB B).take i) (be4 a b c d) (by omega)
      rw [hk] at hset
      have htk : (wordsB B).take (i + 1) = (wordsB B).take i ++ [be4 a b c d] := by rw [List.take_add_one, hgt]; rfl
      rw [← htk] at hset
      have HX := Lib.hid hset
      have hpl := padW_len ((wordsB B).take i) (by omega)
      generalize be4 a b c d = x at hf4 HX
      clear hset htk hk hd2 hgt hd hS hSl hB
      go_wp2_with (first
        | (go_at_call 51; refine (hf4 _).mono ?_; rintro e w3 ⟨rfl, f3⟩; have h5 := f3.keep h5 (by simp); have ci := h5.cell i; have fi := h5.frozen i; rw [icells_get _ _ (by omega)] at ci)
        | fail)
      refine ⟨⟨i + 1, by omega, by simp, ?_, ?_, ?_⟩, by simp only [intOf]; omega⟩
      · rw [← HX.out, ← icells_set]
        exact h5.setCell i _
      · exact (f3.keep h4 (by simp)).setCell_other (by show w.heap.size ≠ w.heap.size + 1; omega) _
      · exact hF.new (S := [w.heap.size + 1]) ((f3.mono (by simp)).trans (Fr.setCell [w.heap.size + 1] w3 ⟨w.heap.size + 1, i, none⟩ _ (.inl (by simp)))) (by simp)
    · obtain rfl : i = 16 := by omega
      rw [List.take_of_length_le (by omega)] at h5
      obtain ⟨M, hM⟩ : ∃ M, M = wordsB B := ⟨_, rfl⟩
      have hML : M.length = 16 := by rw [hM]; exact hW
      rw [← hM] at h5
      have HM := Lib.hid hM
      clear hM hW hBl
      go_wp2_with fail
      rw [show ((16 : Nat) : Int) = 16 from rfl]
      go_loopw [7] (fun v wr => ∃ n : Nat, n ≤ 48 ∧ v = .int .i64 (16 + n : Nat) ∧ At wr (w.heap.size + 1) 87 (icells (padW (sch M n))) ∧ At wr w.heap.size 87 (List.replicate 64 (.int .i64 0)) ∧ Fr [] w wr) (fun v _ => 64 - (intOf v).toNat)
      case atStart => exact ⟨0, by omega, rfl, h5, h4, hF⟩
      case round =>
        clear h5 h4 hF
        obtain ⟨n, hn, rfl, h5, h4, hF⟩ := hrel
        by_cases hl : n < 48
        · have hsl := sch_len M hML n
          have hset := padW_set (sch M n) (lit1 ((sch M n).getD (n + 14) 0) + (sch M n).getD (n + 9) 0 + lit0 ((sch M n).getD (n + 1) 0) + (sch M n).getD n 0) (by omega)
          have hsucc : sch M n ++ [lit1 ((sch M n).getD (n + 14) 0) + (sch M n).getD (n + 9) 0 + lit0 ((sch M n).getD (n + 1) 0) + (sch M n).getD n 0] = sch M (n + 1) := rfl
          rw [hsucc, hsl] at hset
          have hpl := padW_len (sch M n) (by omega)
          have cell : ∀ w', At w' (w.heap.size + 1) 87 (icells (padW (sch M n))) → ∀ k, k < 16 + n → w'.cell? ⟨w.heap.size + 1, k, none⟩ = some (.int .i64 (wd ((sch M n).getD k 0))) := by
            intro w' h k hk
            rw [h.cell, icells_get _ _ (by omega), padW_get _ _ (by omega)]
          have c14 := cell _ h5 (n + 14) (by omega)
          have cell1 : ∀ w', At w' (w.heap.size + 1) 87 (icells (padW (sch M n))) → _ := fun w' h => cell w' h (n + 1) (by omega)
          have cell9 : ∀ w', At w' (w.heap.size + 1) 87 (icells (padW (sch M n))) → _ := fun w' h => cell w' h (n + 9) (by omega)
          have cell0 : ∀ w', At w' (w.heap.size + 1) 87 (icells (padW (sch M n))) → _ := fun w' h => cell w' h n (by omega)
          have cellS : ∀ w', At w' (w.heap.size + 1) 87 (icells (padW (sch M n))) → w'.cell? ⟨w.heap.size + 1, n + 16, none⟩ = some (.int .i64 (wd ((padW (sch M n)).getD (n + 16) 0))) ∧ w'.frozen? ⟨w.heap.size + 1, n + 16, none⟩ = false := by
            intro w' h
            exact ⟨by rw [h.cell, icells_get _ _ (by omega)], h.frozen _⟩
          generalize (padW (sch M n)).getD (n + 16) 0 = old at cellS
          generalize (sch M n).getD (n + 14) 0 = x at c14 hset
          generalize (sch M n).getD (n + 9) 0 = y9 at cell9 hset
          generalize (sch M n).getD (n + 1) 0 = y at cell1 hset
          generalize (sch M n).getD n 0 = z at cell0 hset
          have HX := Lib.hid hset
          have l1 : 16 + (n : Int) < 64 := by omega
          have j1 : IntKind.i64.wrap (16 + (n : Int) - 2) = ((n + 14 : Nat) : Int) := by rw [IntWalk.i64_in _ (by omega)]; omega
          have j2 : IntKind.i64.wrap (16 + (n : Int) - 15) = ((n + 1 : Nat) : Int) := by rw [IntWalk.i64_in _ (by omega)]; omega
          have j3 : IntKind.i64.wrap (16 + (n : Int) - 7) = ((n + 9 : Nat) : Int) := by rw [IntWalk.i64_in _ (by omega)]; omega
          have j4 : IntKind.i64.wrap (16 + (n : Int) - 16) = ((n : Nat) : Int) := by rw [IntWalk.i64_in _ (by omega)]; omega
          have p14 : (0 : Int) ≤ (n : Int) + 14 := by omega
          have q14 : (n : Int) + 14 < 64 := by omega
          have t14 : ((n : Int) + 14).toNat = n + 14 := by omega
          have p9 : (0 : Int) ≤ (n : Int) + 9 := by omega
          have q9 : (n : Int) + 9 < 64 := by omega
          have t9 : ((n : Int) + 9).toNat = n + 9 := by omega
          have p1 : (0 : Int) ≤ (n : Int) + 1 := by omega
          have q1 : (n : Int) + 1 < 64 := by omega
          have t1 : ((n : Int) + 1).toNat = n + 1 := by omega
          have p16 : (0 : Int) ≤ (n : Int) + 16 := by omega
          have q16 : (n : Int) + 16 < 64 := by omega
          have t16 : ((n : Int) + 16).toNat = n + 16 := by omega
          have q0 : (n : Int) < 64 := by omega
          have p20 : (0 : Int) ≤ 16 + (n : Int) := by omega
          have t20 : (16 + (n : Int)).toNat = n + 16 := by omega
          have s3 := fun t => addI3 t (lit1 x) y9 (lit0 y)
          have s4 := fun t => addI4 t (lit1 x) y9 (lit0 y) z
          have s5 := fun t => remI4 t (lit1 x) y9 (lit0 y) z
          clear hset hsucc cell
          go_wp2_with (first
            | (go_at_call 53; refine (rlit1_any x _ (hP.keep hF)).mono ?_; rintro e w3 ⟨rfl, f3⟩; have h5 := f3.keep h5 (by simp); have h4 := f3.keep h4 (by simp); have hF := hF.trans f3; have c1 := cell1 _ h5)
            | (go_at_call 54; refine (rlit0_any y _ (hP.keep hF)).mono ?_; rintro e w4 ⟨rfl, f4⟩; have h5 := f4.keep h5 (by simp); have h4 := f4.keep h4 (by simp); have hF := hF.trans f4; have c9 := cell9 _ h5; have c0 := cell0 _ h5; have cS := (cellS _ h5).1; have fS := (cellS _ h5).2)
            | fail)
          refine wp_region_until (fun _ => True) (fun w' => w'.cell? ⟨w.heap.size + 1, n + 9, none⟩ = some (.int .i64 (wd y9)) ∧ w'.cell? ⟨w.heap.size + 1, n, none⟩ = some (.int .i64 (wd z))) 16 (by rfl) ?_
          have s1 : _ ∧ _ := ⟨c9, c0⟩
          have hT : True := trivial
          have s1' := fun (_ : (false = false)) => s1
          refine until_s0 0 (v := ?_) rfl (by kernel_rfl) (fun _ _ _ h => h) (Or.inl ⟨by rfl, ?_⟩) (by assumption) (fun h => by first | assumption | exact absurd (h : true = false) (by decide)) ?_
          rotate_left
          · intro w hSw; (try dsimp only at hSw); (try go_simp); (try with_reducible rfl)
          try simp only [Act.put, List.setIfInBounds_toArray, List.set_cons_zero, List.set_cons_succ]
          refine until_s0 1 (v := ?_) rfl (by kernel_rfl) (fun _ _ _ h => h) (Or.inl ⟨by rfl, ?_⟩) (by assumption) (fun h => by first | assumption | exact absurd (h : true = false) (by decide)) ?_
          rotate_left
          · intro w hSw; (try dsimp only at hSw); (try go_simp); (try with_reducible rfl)
          try simp only [Act.put, List.setIfInBounds_toArray, List.set_cons_zero, List.set_cons_succ]
          refine until_s0 2 (v := ?_) rfl (by kernel_rfl) (fun _ _ _ h => h) (Or.inl ⟨by rfl, ?_⟩) (by assumption) (fun h => by first | assumption | exact absurd (h : true = false) (by decide)) ?_
          rotate_left
          · intro w hSw; (try dsimp only at hSw); (try go_simp); (try with_reducible rfl)
          try simp only [Act.put, List.setIfInBounds_toArray, List.set_cons_zero, List.set_cons_succ]
          refine until_s0 3 (v := ?_) rfl (by kernel_rfl) (fun _ _ _ h => h) (Or.inl ⟨by rfl, ?_⟩) (by assumption) (fun h => by first | assumption | exact absurd (h : true = false) (by decide)) ?_
          rotate_left
          · intro w hSw; (try dsimp only at hSw); (try go_simp); (try with_reducible rfl)
          try simp only [Act.put, List.setIfInBounds_toArray, List.set_cons_zero, List.set_cons_succ]
          refine until_s0 4 (v := ?_) rfl (by kernel_rfl) (fun _ _ _ h => h) (Or.inl ⟨by rfl, ?_⟩) (by assumption) (fun h => by first | assumption | exact absurd (h : true = false) (by decide)) ?_
          rotate_left
          · intro w hSw; (try dsimp only at hSw); (try go_simp); (try with_reducible rfl)
          try simp only [Act.put, List.setIfInBounds_toArray, List.set_cons_zero, List.set_cons_succ]
          refine until_s1 5 (v := ?_) rfl (by kernel_rfl) (fun _ _ _ h => h) (Or.inl ⟨by rfl, ?_⟩) (by assumption) (fun h => by first | assumption | exact absurd (h : true = false) (by decide)) ?_
          rotate_left
          · intro w hSw; (try dsimp only at hSw); (try go_simp); (try with_reducible rfl)
          try simp only [Act.put, List.setIfInBounds_toArray, List.set_cons_zero, List.set_cons_succ]
          refine until_s0 6 (v := ?_) rfl (by kernel_rfl) (fun _ _ _ h => h) (Or.inl ⟨by rfl, ?_⟩) (by assumption) (fun h => by first | assumption | exact absurd (h : true = false) (by decide)) ?_
          rotate_left
          · intro w hSw; (try dsimp only at hSw); (try go_simp); (try with_reducible rfl)
          try simp only [Act.put, List.setIfInBounds_toArray, List.set_cons_zero, List.set_cons_succ]
          refine until_s0 7 (v := ?_) rfl (by kernel_rfl) (fun _ _ _ h => h) (Or.inl ⟨by rfl, ?_⟩) (by assumption) (fun h => by first | assumption | exact absurd (h : true = false) (by decide)) ?_
          rotate_left
          · intro w hSw; (try dsimp only at hSw); (try go_simp); (try with_reducible rfl)
          try simp only [Act.put, List.setIfInBounds_toArray, List.set_cons_zero, List.set_cons_succ]
          refine until_s0 8 (v := ?_) rfl (by kernel_rfl) (fun _ _ _ h => h) (Or.inl ⟨by rfl, ?_⟩) (by assumption) (fun h => by first | assumption | exact absurd (h : true = false) (by decide)) ?_
          rotate_left
          · intro w hSw; (try dsimp only at hSw); (try go_simp); (try with_reducible rfl)
          try simp only [Act.put, List.setIfInBounds_toArray, List.set_cons_zero, List.set_cons_succ]
          refine until_s0 9 (v := ?_) rfl (by kernel_rfl) (fun _ _ _ h => h) (Or.inl ⟨by rfl, ?_⟩) (by assumption) (fun h => by first | assumption | exact absurd (h : true = false) (by decide)) ?_
          rotate_left
          · intro w hSw; (try dsimp only at hSw); (try go_simp); (try with_reducible rfl)
          try simp only [Act.put, List.setIfInBounds_toArray, List.set_cons_zero, List.set_cons_succ]
          refine until_s0 10 (v := ?_) rfl (by kernel_rfl) (fun _ _ _ h => h) (Or.inl ⟨by rfl, ?_⟩) (by assumption) (fun h => by first | assumption | exact absurd (h : true = false) (by decide)) ?_
          rotate_left
          · intro w hSw; (try dsimp only at hSw); (try go_simp); (try with_reducible rfl)
          try simp only [Act.put, List.setIfInBounds_toArray, List.set_cons_zero, List.set_cons_succ]
          refine until_s0 11 (v := ?_) rfl (by kernel_rfl) (fun _ _ _ h => h) (Or.inl ⟨by rfl, ?_⟩) (by assumption) (fun h => by first | assumption | exact absurd (h : true = false) (by decide)) ?_
          rotate_left
          · intro w hSw; (try dsimp only at hSw); (try go_simp); (try with_reducible rfl)
          try simp only [Act.put, List.setIfInBounds_toArray, List.set_cons_zero, List.set_cons_succ]
          refine until_s1 12 (v := ?_) rfl (by kernel_rfl) (fun _ _ _ h => h) (Or.inl ⟨by rfl, ?_⟩) (by assumption) (fun h => by first | assumption | exact absurd (h : true = false) (by decide)) ?_
          rotate_left
          · intro w hSw; (try dsimp only at hSw); (try go_simp); (try with_reducible rfl)
          try simp only [Act.put, List.setIfInBounds_toArray, List.set_cons_zero, List.set_cons_succ]
          refine until_s0 13 (v := ?_) rfl (by kernel_rfl) (fun _ _ _ h => h) (Or.inl ⟨by rfl, ?_⟩) (by assumption) (fun h => by first | assumption | exact absurd (h : true = false) (by decide)) ?_
          rotate_left
          · intro w hSw; (try dsimp only at hSw); (try go_simp); (try with_reducible rfl)
          try simp only [Act.put, List.setIfInBounds_toArray, List.set_cons_zero, List.set_cons_succ]
          refine until_s0 14 (v := ?_) rfl (by kernel_rfl) (fun _ _ _ h => h) (Or.inl ⟨by rfl, ?_⟩) (by assumption) (fun h => by first | assumption | exact absurd (h : true = false) (by decide)) ?_
          rotate_left
          · intro w hSw; (try dsimp only at hSw); (try go_simp); (try with_reducible rfl)
          try simp only [Act.put, List.setIfInBounds_toArray, List.set_cons_zero, List.set_cons_succ]
          refine until_s0 15 (v := ?_) rfl (by kernel_rfl) (fun _ _ _ h => h) (Or.inl ⟨by rfl, ?_⟩) (by assumption) (fun h => by first | assumption | exact absurd (h : true = false) (by decide)) ?_
          rotate_left
          · intro w hSw; (try dsimp only at hSw); (try go_simp); (try with_reducible rfl)
          try simp only [Act.put, List.setIfInBounds_toArray, List.set_cons_zero, List.set_cons_succ]
          refine until_sole 16 rfl (by kernel_rfl) (by rfl) ?_
          intro K' hK
          go_simp
          refine hK _ _ trivial (fun h => absurd (h : true = false) (by decide)) ?_
          clear hK s1 s1'
          refine until_done (by kernel_rfl) ?_ _
          go_wp2_with fail
          have e : (padW (sch M n)).set (n + 16) (lit1 x + y9 + lit0 y + z) = padW (sch M (n + 1)) := by rw [Nat.add_comm n 16]; exact HX.out
          have h5' := h5.setCell (n + 16) (.int .i64 (wd (lit1 x + y9 + lit0 y + z)))
          rw [icells_set, e] at h5'
          have h4' := h4.setCell_other (a := ⟨w.heap.size + 1, n + 16, none⟩) (by show w.heap.size ≠ w.heap.size + 1; omega) (.int .i64 (wd (lit1 x + y9 + lit0 y + z)))
          refine ⟨⟨n + 1, by omega, by simp; omega, h5', h4', hF.new (S := [w.heap.size + 1]) ((Fr.setCell [w.heap.size + 1] w4 ⟨w.heap.size + 1, n + 16, none⟩ _ (.inl (by simp))).trans (Fr.drew _ _)) (by simp)⟩, by simp only [intOf]; omega⟩
        · obtain rfl : n = 48 := by omega
          have hml : (sch M 48).length = 64 := sch_len M hML 48
          have hpad : padW (sch M 48) = sch M 48 := by simp [padW, hml]
          rw [hpad] at h5
          have hsz : (Tryd.prog.info? 87).map (·.size) = some (icells (sch M 48)).toArray.size := by rw [List.size_toArray, icells_len, hml]; kernel_rfl
          have hold : (List.replicate 64 (Value.int .i64 0)).toArray.size = (icells (sch M 48)).toArray.size := by rw [List.size_toArray, List.size_toArray, icells_len, hml]; rfl
          go_wp2_with (first
            | refine wpList_load_row rfl _ _ rfl _ rfl _ _ _ _ h5.out Tryd.underlying87 rfl hsz ?_
            | refine wpList_store_row rfl _ _ _ rfl _ _ rfl rfl _ _ h4.out hsz hold (icells_one _) ?_
            | fail)
          have h4' := h4.setRow (icells (sch M 48)).toArray
          rw [List.toList_toArray] at h4'
          rw [← HM.out]
          refine ⟨rfl, _, ?_, rfl, hF.new (S := [w.heap.size]) (Fr.setRow _ _ _ _ (.inl (by simp))) (by simp)⟩
          refine results_cell_row (p := 4) (ty := 87) (by rfl) _ _ w.heap.size 87 _ (0, 0) _ ?_ h4'.out Tryd.underlying87 rfl hsz
          simp only [Act.put, List.setIfInBounds_toArray, List.set_cons_zero, List.set_cons_succ, Array.getD_eq_getD_getElem?, List.getElem?_toArray, List.getElem?_cons_succ, List.getElem?_cons_zero, Option.getD_some]
end Go.Proofs.YtkagmoaapampgaaDoor
