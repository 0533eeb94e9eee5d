/- The walk of ChachaQuarters: it returns true for every four numbers. -/
import Derived.Test.YtmgfhamfbdaeiaaQuarter
namespace Go.Proofs.Ytmgfhamfbdaeiaa
open Go.RowKit Go.Lib Base

theorem num_any (a : Int) (w : World) :
    Calls Try.prog 6 #[.int .i64 a] w fun e w' => e = .returned (.int .i64 a) ∧ w = w' := by
  go_enter Try.func6, Try.ntmps6
  go_wp2
  go_ret
  exact ⟨rfl, rfl⟩

theorem isWord_any (a : Int) (w : World) :
    Calls Try.prog 8 #[.int .i64 a] w fun e w' => e = .returned (.bool (decide (0 ≤ a ∧ a < 4294967296))) ∧ w = w' := by
  by_cases h0 : 0 ≤ a <;> by_cases h1 : a < 4294967296
  all_goals
    go_enter Try.func8, Try.ntmps8
    go_wp2
    go_ret
    exact ⟨by congr 2; simp [h0, h1], rfl⟩

theorem isWord_yes (a : Int) (h : 0 ≤ a ∧ a < 4294967296) (w : World) :
    Calls Try.prog 8 #[.int .i64 a] w fun e w' => e = .returned (.bool true) ∧ w = w' :=
  (isWord_any a w).mono fun e w' ⟨he, hw⟩ => ⟨by rw [he, decide_eq_true h], hw⟩
theorem isWord_no (a : Int) (h : ¬ (0 ≤ a ∧ a < 4294967296)) (w : World) :
    Calls Try.prog 8 #[.int .i64 a] w fun e w' => e = .returned (.bool false) ∧ w = w' :=
  (isWord_any a w).mono fun e w' ⟨he, hw⟩ => ⟨by rw [he, decide_eq_false h], hw⟩

def q5 (q : UInt32 × UInt32 × UInt32 × UInt32) : Value := .tuple #[.int .i64 (wd q.1), .int .i64 (wd q.2.1), .int .i64 (wd q.2.2.1), .int .i64 (wd q.2.2.2), .int .i64 0]
def z5 : Value := .tuple #[.int .i64 0, .int .i64 0, .int .i64 0, .int .i64 0, .int .i64 1]

theorem idx0 (a b c d : Int) (w : World) : (Instr.index 29 (.agg #[.int .i64 a, .int .i64 b, .int .i64 c, .int .i64 d]) (.int .i64 0)).run Try.prog w = .ok (.int .i64 a) w := by kernel_rfl
theorem idx1 (a b c d : Int) (w : World) : (Instr.index 29 (.agg #[.int .i64 a, .int .i64 b, .int .i64 c, .int .i64 d]) (.int .i64 1)).run Try.prog w = .ok (.int .i64 b) w := by kernel_rfl
theorem idx2 (a b c d : Int) (w : World) : (Instr.index 29 (.agg #[.int .i64 a, .int .i64 b, .int .i64 c, .int .i64 d]) (.int .i64 2)).run Try.prog w = .ok (.int .i64 c) w := by kernel_rfl
theorem idx3 (a b c d : Int) (w : World) : (Instr.index 29 (.agg #[.int .i64 a, .int .i64 b, .int .i64 c, .int .i64 d]) (.int .i64 3)).run Try.prog w = .ok (.int .i64 d) w := by kernel_rfl
attribute [local go_sem] idx0 idx1 idx2 idx3

set_option maxRecDepth 100000 in
theorem Quarter_good (a b c d : UInt32) (w : World) :
    Calls Try.prog 4 #[.int .i64 (wd a), .int .i64 (wd b), .int .i64 (wd c), .int .i64 (wd d)] w fun e w' => e = .returned (q5 (qr a b c d)) ∧ w = w' := by
  go_enter Try.func4, Try.ntmps4
  go_wp2_with fail
  go_loop [24] (fun i => ∃ k : Nat, k ≤ 4 ∧ i = .int .i64 k) (fun i => 4 - (intOf i).toNat)
  case atStart => exact ⟨0, by omega, rfl⟩
  case round =>
    obtain ⟨k, hk, rfl⟩ := hrel
    by_cases h4 : k = 4
    · subst h4
      go_wp2_with (go_at_call 7; refine (quarter_any _ _ _ _ _).mono ?_; rintro e w' ⟨rfl, rfl⟩)
      refine bodyPost_ret (v := q5 (qr a b c d)) (by simp [results, Try.results4, go_sem]; rfl) rfl ⟨rfl, rfl⟩
    · obtain rfl | rfl | rfl | rfl : k = 0 ∨ k = 1 ∨ k = 2 ∨ k = 3 := by omega
      · go_wp2_with fail
        go_round
        case rel => exact ⟨1, by decide, by go_num⟩
        case measure => simp [intOf]
      · go_wp2_with fail
        go_round
        case rel => exact ⟨2, by decide, by go_num⟩
        case measure => simp [intOf]
      · go_wp2_with fail
        go_round
        case rel => exact ⟨3, by decide, by go_num⟩
        case measure => simp [intOf]
      · go_wp2_with fail
        go_round
        case rel => exact ⟨4, by decide, by go_num⟩
        case measure => simp [intOf]

set_option maxRecDepth 100000 in
theorem Quarter_bad (a b c d : Int) (w : World) (h : ¬ ((0 ≤ a ∧ a < 4294967296) ∧ (0 ≤ b ∧ b < 4294967296) ∧ (0 ≤ c ∧ c < 4294967296) ∧ (0 ≤ d ∧ d < 4294967296))) :
    Calls Try.prog 4 #[.int .i64 a, .int .i64 b, .int .i64 c, .int .i64 d] w fun e w' => e = .returned z5 ∧ w = w' := by
  have H := Lib.hid h
  clear h
  go_enter Try.func4, Try.ntmps4
  go_wp2_with fail
  go_loop [24] (fun i => ∃ k : Nat, k ≤ 4 ∧ i = .int .i64 k ∧ (0 < k → 0 ≤ a ∧ a < 4294967296) ∧ (1 < k → 0 ≤ b ∧ b < 4294967296) ∧ (2 < k → 0 ≤ c ∧ c < 4294967296) ∧ (3 < k → 0 ≤ d ∧ d < 4294967296)) (fun i => 4 - (intOf i).toNat)
  case atStart => exact ⟨0, by omega, rfl, by omega, by omega, by omega, by omega⟩
  case round =>
    obtain ⟨k, hk, rfl, g0, g1, g2, g3⟩ := hrel
    by_cases h4 : k = 4
    · exact absurd ⟨g0 (by omega), g1 (by omega), g2 (by omega), g3 (by omega)⟩ H.out
    · have G0 := Lib.hid g0
      have G1 := Lib.hid g1
      have G2 := Lib.hid g2
      have G3 := Lib.hid g3
      clear g0 g1 g2 g3
      obtain rfl | rfl | rfl | rfl : k = 0 ∨ k = 1 ∨ k = 2 ∨ k = 3 := by omega
      · go_wp2_with fail
        all_goals first
          | exact bodyPost_ret (v := z5) (by simp [results, Try.results4, go_sem]; rfl) rfl ⟨rfl, rfl⟩
          | (go_round
             case rel =>
               have g0 := G0.out
               have g1 := G1.out
               have g2 := G2.out
               refine ⟨1, ?_, by go_num, ?_, ?_, ?_, ?_⟩ <;> omega
             case measure => simp [intOf])
      · go_wp2_with fail
        all_goals first
          | exact bodyPost_ret (v := z5) (by simp [results, Try.results4, go_sem]; rfl) rfl ⟨rfl, rfl⟩
          | (go_round
             case rel =>
               have g0 := G0.out
               have g1 := G1.out
               have g2 := G2.out
               refine ⟨2, ?_, by go_num, ?_, ?_, ?_, ?_⟩ <;> omega
             case measure => simp [intOf])
      · go_wp2_with fail
        all_goals first
          | exact bodyPost_ret (v := z5) (by simp [results, Try.results4, go_sem]; rfl) rfl ⟨rfl, rfl⟩
          | (go_round
             case rel =>
               have g0 := G0.out
               have g1 := G1.out
               have g2 := G2.out
               refine ⟨3, ?_, by go_num, ?_, ?_, ?_, ?_⟩ <;> omega
             case measure => simp [intOf])
      · go_wp2_with fail
        all_goals first
          | exact bodyPost_ret (v := z5) (by simp [results, Try.results4, go_sem]; rfl) rfl ⟨rfl, rfl⟩
          | (go_round
             case rel =>
               have g0 := G0.out
               have g1 := G1.out
               have g2 := G2.out
               refine ⟨4, ?_, by go_num, ?_, ?_, ?_, ?_⟩ <;> omega
             case measure => simp [intOf])

set_option maxRecDepth 100000 in
theorem RefQuarter_good (a b c d : UInt32) (w : World) :
    Calls Try.prog 5 #[.int .i64 (wd a), .int .i64 (wd b), .int .i64 (wd c), .int .i64 (wd d)] w fun e w' => e = .returned (q5 (qr a b c d)) ∧ Fr [] w w' := by
  have ew : ∀ x : UInt32, decide (0 ≤ wd x ∧ wd x < 4294967296) = true := fun x => by have := wd_lt x; simp; omega
  have EW := Lib.hid ew
  clear ew
  go_enter Try.func5, Try.ntmps5
  go_wp2_with (first | (go_at_call 8; refine (isWord_any _ _).mono ?_; rintro e w' ⟨rfl, rfl⟩; rw [EW.out]) | (go_at_call 9; refine (refquarter_any _ _ _ _ _).mono ?_; rintro e w1 ⟨rfl, hf1⟩))
  go_region
  go_wp2
  refine bodyPost_ret (v := q5 (qr a b c d)) (by simp [results, Try.results5, go_sem]; rfl) rfl ⟨rfl, hf1.trans ((Fr.alloc _ _ _).trans (Fr.drew _ _))⟩

set_option maxRecDepth 100000 in
theorem RefQuarter_bad (a b c d : Int) (w : World) (h : ¬ ((0 ≤ a ∧ a < 4294967296) ∧ (0 ≤ b ∧ b < 4294967296) ∧ (0 ≤ c ∧ c < 4294967296) ∧ (0 ≤ d ∧ d < 4294967296))) :
    Calls Try.prog 5 #[.int .i64 a, .int .i64 b, .int .i64 c, .int .i64 d] w fun e w' => e = .returned z5 ∧ w = w' := by
  have H := Lib.hid h
  clear h
  by_cases pa : 0 ≤ a ∧ a < 4294967296
  · by_cases pb : 0 ≤ b ∧ b < 4294967296
    · by_cases pc : 0 ≤ c ∧ c < 4294967296
      · have pd : ¬ (0 ≤ d ∧ d < 4294967296) := fun h => H.out ⟨pa, pb, pc, h⟩
        have PA := Lib.hid pa; have PB := Lib.hid pb; have PC := Lib.hid pc; have PD := Lib.hid pd
        clear pa pb pc pd
        go_enter Try.func5, Try.ntmps5
        go_wp2_with fail
        refine (isWord_yes _ PA.out _).mono ?_
        rintro e w' ⟨rfl, rfl⟩
        go_wp2_with fail
        refine (isWord_yes _ PB.out _).mono ?_
        rintro e w' ⟨rfl, rfl⟩
        go_wp2_with fail
        refine (isWord_yes _ PC.out _).mono ?_
        rintro e w' ⟨rfl, rfl⟩
        go_wp2_with fail
        refine (isWord_no _ PD.out _).mono ?_
        rintro e w' ⟨rfl, rfl⟩
        go_wp2_with fail
        exact bodyPost_ret (v := z5) (by simp [results, Try.results5, go_sem]; rfl) rfl ⟨rfl, rfl⟩
      · have PA := Lib.hid pa; have PB := Lib.hid pb; have PC := Lib.hid pc
        clear pa pb pc
        go_enter Try.func5, Try.ntmps5
        go_wp2_with fail
        refine (isWord_yes _ PA.out _).mono ?_
        rintro e w' ⟨rfl, rfl⟩
        go_wp2_with fail
        refine (isWord_yes _ PB.out _).mono ?_
        rintro e w' ⟨rfl, rfl⟩
        go_wp2_with fail
        refine (isWord_no _ PC.out _).mono ?_
        rintro e w' ⟨rfl, rfl⟩
        go_wp2_with fail
        exact bodyPost_ret (v := z5) (by simp [results, Try.results5, go_sem]; rfl) rfl ⟨rfl, rfl⟩
    · have PA := Lib.hid pa; have PB := Lib.hid pb
      clear pa pb
      go_enter Try.func5, Try.ntmps5
      go_wp2_with fail
      refine (isWord_yes _ PA.out _).mono ?_
      rintro e w' ⟨rfl, rfl⟩
      go_wp2_with fail
      refine (isWord_no _ PB.out _).mono ?_
      rintro e w' ⟨rfl, rfl⟩
      go_wp2_with fail
      exact bodyPost_ret (v := z5) (by simp [results, Try.results5, go_sem]; rfl) rfl ⟨rfl, rfl⟩
  · have PA := Lib.hid pa
    clear pa
    go_enter Try.func5, Try.ntmps5
    go_wp2_with fail
    refine (isWord_no _ PA.out _).mono ?_
    rintro e w' ⟨rfl, rfl⟩
    go_wp2_with fail
    exact bodyPost_ret (v := z5) (by simp [results, Try.results5, go_sem]; rfl) rfl ⟨rfl, rfl⟩

set_option maxRecDepth 100000 in
theorem lawQuarters_any (a : Int) (wa : (Lit.int .i64 a).wf = true) (b : Int) (wb : (Lit.int .i64 b).wf = true) (c : Int) (wc : (Lit.int .i64 c).wf = true) (d : Int) (wd0 : (Lit.int .i64 d).wf = true) (w : World) :
    Calls Try.prog 3 #[.int .i64 a, .int .i64 b, .int .i64 c, .int .i64 d] w fun e w' => e = .returned (.bool true) ∧ Fr [] w w' := by
  by_cases h : (0 ≤ a ∧ a < 4294967296) ∧ (0 ≤ b ∧ b < 4294967296) ∧ (0 ≤ c ∧ c < 4294967296) ∧ (0 ≤ d ∧ d < 4294967296)
  · obtain ⟨x, rfl⟩ := wd_of h.1.1 h.1.2
    obtain ⟨y, rfl⟩ := wd_of h.2.1.1 h.2.1.2
    obtain ⟨z, rfl⟩ := wd_of h.2.2.1.1 h.2.2.1.2
    obtain ⟨u, rfl⟩ := wd_of h.2.2.2.1 h.2.2.2.2
    clear h wa wb wc wd0
    go_enter Try.func3, Try.ntmps3
    go_wp2_with fail
    refine (Quarter_good _ _ _ _ _).mono ?_
    rintro e w' ⟨rfl, rfl⟩
    unfold q5
    go_wp2_with fail
    refine (RefQuarter_good _ _ _ _ _).mono ?_
    rintro e w1 ⟨rfl, hf1⟩
    unfold q5
    go_wp2_with (go_at_call 6; refine (num_any _ _).mono ?_; rintro e w' ⟨rfl, rfl⟩)
    go_ret
    exact ⟨rfl, hf1⟩
  · have H := Lib.hid h
    clear h wa wb wc wd0
    go_enter Try.func3, Try.ntmps3
    go_wp2_with fail
    refine (Quarter_bad _ _ _ _ _ H.out).mono ?_
    rintro e w' ⟨rfl, rfl⟩
    unfold z5
    go_wp2_with fail
    refine (RefQuarter_bad _ _ _ _ _ H.out).mono ?_
    rintro e w1 ⟨rfl, rfl⟩
    unfold z5
    go_wp2_with (go_at_call 6; refine (num_any _ _).mono ?_; rintro e w' ⟨rfl, rfl⟩)
    go_ret
    exact ⟨rfl, Fr.refl _ _⟩
end Go.Proofs.Ytmgfhamfbdaeiaa
