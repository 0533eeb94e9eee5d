/- The walk of TapeSplit: it returns true for every text and every two numbers. -/
import Derived.Test.YtchoppeoaehgnaaLawNewW
import Derived.Deep.Cut
import Derived.Deep.DeepCutAuto
namespace Go.Proofs.Ytchoppeoaehgnaa
open Go.RowKit Go.Lib Base

theorem IsTape.keep {S : List Nat} {w w' : World} {b s : Nat} {rest : List UInt8} {dr : Nat} (h : IsTape w b s rest dr) (hf : Fr S w w') (hb : b ∉ S) (hs : s ∉ S) : IsTape w' b s rest dr := by
  obtain ⟨pre, hne, hl, hd, h0, h1⟩ := h
  exact ⟨pre, hne, hl, hd, hf.keep h0 hb, hf.keep h1 hs⟩
theorem IsTape.lt {w : World} {b s : Nat} {rest : List UInt8} {dr : Nat} (h : IsTape w b s rest dr) : b < w.heap.size ∧ s < w.heap.size := by
  obtain ⟨pre, hne, hl, hd, h0, h1⟩ := h
  exact ⟨h0.lt, h1.lt⟩

def badB (a b : Int) : Bool := decide (a < 0 ∨ b < 0 ∨ 67108864 < a ∨ 67108864 < b)

set_option maxHeartbeats 4000000 in
set_option maxRecDepth 100000 in
theorem lawSplit_any (s : ByteArray) (hs : s.size ≤ 140737488351232) (a : Int) (wa : (Lit.int .i64 a).wf = true) (b : Int) (wb : (Lit.int .i64 b).wf = true) (w : World) :
    Calls Try.prog 6 #[.string s, .int .i64 a, .int .i64 b] w fun e w' => e = .returned (.bool true) ∧ Fr [] w w' := by
  by_cases hb : 67108864 < s.size
  · go_enter Try.func6, Try.ntmps6
    go_wp2_with (go_at_call 3; refine (lawNew_any _ hs _).mono ?_; rintro e w' ⟨rfl, hf⟩)
    go_ret
    exact ⟨rfl, hf⟩
  · have hz : s.data.toList.length = s.size := by simp
    go_enter Try.func6, Try.ntmps6
    go_upto_region 3 with (fail)
    go_cut [35] (fun v wx => v = .bool (badB a b) ∧ wx = w)
    case first =>
      go_wp2
      all_goals go_meet
      all_goals refine ⟨?_, rfl⟩
      all_goals congr 1
      all_goals rw [Bool.eq_iff_iff]
      all_goals (simp [badB]; omega)
    case rest =>
    obtain ⟨rfl, hw0⟩ := hcut
    obtain rfl : wc = w := hw0
    go_upto_if 35 with (fail)
    go_cut [1, 2] (fun v1 v2 w' => ∃ x y : Nat, v1 = .int .i64 x ∧ v2 = .int .i64 y ∧ x ≤ 67108864 ∧ y ≤ 67108864 ∧ w' = wc)
    case first =>
      go_wp2
      all_goals go_meet
      all_goals first
        | (refine ⟨1, 2, rfl, rfl, ?_, ?_, rfl⟩ <;> omega)
        | (have hbad : badB a b = false := by assumption
           have hc : 0 ≤ a ∧ 0 ≤ b ∧ a ≤ 67108864 ∧ b ≤ 67108864 := by simp [badB] at hbad; omega
           obtain ⟨x, rfl⟩ := Int.eq_ofNat_of_zero_le hc.1
           obtain ⟨y, rfl⟩ := Int.eq_ofNat_of_zero_le hc.2.1
           refine ⟨x, y, rfl, rfl, ?_, ?_, rfl⟩ <;> omega)
    case rest =>
      obtain ⟨x, y, rfl, rfl, hx, hy, hw0⟩ := hcut
      subst hw0
      go_wp2_with fail
      refine (new_any s _ (by omega)).mono ?_
      rintro e w1 ⟨rfl, hf1, hT1⟩
      go_wp2_with fail
      refine (new_any s _ (by omega)).mono ?_
      rintro e w2 ⟨rfl, hf2, hT2⟩
      have l0 := hT1.lt
      have hT1 := hT1.keep hf2 (by simp) (by simp)
      have l1 := hT1.lt
      have hs1 := hf1.size
      have hs2 := hf2.size
      have l2 := hT2.lt
      have hM : ((x : Int) + y) = ((x + y : Nat) : Int) := by omega
      have HM := Lib.hid hM
      clear hM
      have hcat : ∀ A B : List UInt8, (({ data := A.toArray } ++ { data := B.toArray } : ByteArray)).toList = A ++ B := by
        intro A B
        rw [ByteArray.toList_eq]
        simp
      by_cases c1 : x + y ≤ s.size
      · have c1' : (x : Int) + y ≤ s.size := by omega
        go_wp2_with (go_at_call 9; refine (num_any _ _).mono ?_; rintro e w' ⟨rfl, rfl⟩)
        refine (draw_ok _ _ _ _ _ _ hT1 (by omega)).mono ?_
        rintro e w3 ⟨rfl, hf3, hT3⟩
        go_wp2_with fail
        refine (draw_ok _ _ _ _ _ _ hT3 (by simp; omega)).mono ?_
        rintro e w4 ⟨rfl, hf4, hT4⟩
        have hT2 := (hT2.keep hf3 (by simp; omega) (by simp; omega)).keep hf4 (by simp; omega) (by simp; omega)
        go_wp2_with fail
        rw [HM.out]
        refine (draw_ok _ _ _ _ _ _ hT2 (by omega)).mono ?_
        rintro e w5 ⟨rfl, hf5, hT5⟩
        have hT4 := hT4.keep hf5 (by simp; omega) (by simp; omega)
        rw [List.drop_drop, show 0 + x + y = x + y by omega] at hT4
        rw [show 0 + (x + y) = x + y by omega] at hT5
        have hcut2 : List.take x s.data.toList ++ List.take y (List.drop x s.data.toList) = List.take (x + y) s.data.toList := List.take_add.symm
        have hlen : (⟨(List.take x s.data.toList).toArray⟩ : ByteArray).size = x := by
          rw [size_eq]; simp only [List.length_take]; omega
        go_wp2_with (go_at_call 9; refine (num_any _ _).mono ?_; rintro e w' ⟨rfl, rfl⟩)
        refine (left_any _ _ _ _ _ hT4).mono ?_
        rintro e w' ⟨rfl, n1, rfl⟩
        go_wp2_with fail
        refine (left_any _ _ _ _ _ (show IsTape (w5.drewN n1) _ _ _ _ from hT5)).mono ?_
        rintro e w' ⟨rfl, n2, rfl⟩
        go_wp2_with fail
        refine (drawn_any _ _ _ _ _ (show IsTape (w5.drewN _) _ _ _ _ from hT4)).mono ?_
        rintro e w' ⟨rfl, n3, rfl⟩
        go_wp2_with fail
        refine (drawn_any _ _ _ _ _ (show IsTape (w5.drewN _) _ _ _ _ from hT5)).mono ?_
        rintro e w' ⟨rfl, n4, rfl⟩
        go_wp2_with fail
        go_ret
        refine ⟨rfl, ?_⟩
        exact ((((hf1.trans hf2).new hf3 (by simp)).new hf4 (by simp)).new hf5 (by simp; omega)).trans (Fr.drewN _ _ _)
      · by_cases c2 : x ≤ s.size
        · have c1' : (s.size : Int) < (x : Int) + y := by omega
          go_wp2_with (go_at_call 9; refine (num_any _ _).mono ?_; rintro e w' ⟨rfl, rfl⟩)
          refine (draw_ok _ _ _ _ _ _ hT1 (by omega)).mono ?_
          rintro e w3 ⟨rfl, hf3, hT3⟩
          go_wp2_with fail
          refine (draw_dry _ _ _ _ _ _ hT3 (by simp; omega)).mono ?_
          rintro e w4 ⟨rfl, hf4, hT4⟩
          have hT2 := (hT2.keep hf3 (by simp; omega) (by simp; omega)).keep hf4 (by simp; omega) (by simp; omega)
          go_wp2_with fail
          refine (draw_dry _ _ _ _ _ _ hT2 (by omega)).mono ?_
          rintro e w5 ⟨rfl, hf5, hT5⟩
          have hT4 := hT4.keep hf5 (by simp; omega) (by simp; omega)
          go_wp2_with (go_at_call 9; refine (num_any _ _).mono ?_; rintro e w' ⟨rfl, rfl⟩)
          refine (left_any _ _ _ _ _ hT4).mono ?_
          rintro e w' ⟨rfl, n1, rfl⟩
          go_wp2_with fail
          refine (left_any _ _ _ _ _ (show IsTape (w5.drewN n1) _ _ _ _ from hT5)).mono ?_
          rintro e w' ⟨rfl, n2, rfl⟩
          go_wp2_with fail
          refine (drawn_any _ _ _ _ _ (show IsTape (w5.drewN _) _ _ _ _ from hT5)).mono ?_
          rintro e w' ⟨rfl, n3, rfl⟩
          go_wp2_with (go_at_call 9; refine (num_any _ _).mono ?_; rintro e w' ⟨rfl, rfl⟩)
          go_ret
          refine ⟨rfl, ?_⟩
          exact ((((hf1.trans hf2).new hf3 (by simp)).new hf4 (by simp)).new hf5 (by simp; omega)).trans (Fr.drewN _ _ _)
        · have c1' : (s.size : Int) < (x : Int) + y := by omega
          go_wp2_with (go_at_call 9; refine (num_any _ _).mono ?_; rintro e w' ⟨rfl, rfl⟩)
          refine (draw_dry _ _ _ _ _ _ hT1 (by omega)).mono ?_
          rintro e w3 ⟨rfl, hf3, hT3⟩
          go_wp2_with fail
          refine (draw_any _ _ _ _ _ _ hT3).mono ?_
          rintro e w4 ⟨rfl, hf4, hT4⟩
          have e1 : (drawR [] 0 ↑y).2.2.1 = [] := by unfold drawR; (repeat' split) <;> simp
          generalize hd : (drawR [] 0 ↑y).2.2.2 = d4 at hT4
          clear hd
          rw [e1] at hT4
          generalize (drawR [] 0 ↑y).2.1 = k4
          have hT2 := (hT2.keep hf3 (by simp; omega) (by simp; omega)).keep hf4 (by simp; omega) (by simp; omega)
          go_wp2_with fail
          refine (draw_dry _ _ _ _ _ _ hT2 (by omega)).mono ?_
          rintro e w5 ⟨rfl, hf5, hT5⟩
          have hT4 := hT4.keep hf5 (by simp; omega) (by simp; omega)
          go_wp2_with (go_at_call 9; refine (num_any _ _).mono ?_; rintro e w' ⟨rfl, rfl⟩)
          refine (left_any _ _ _ _ _ hT4).mono ?_
          rintro e w' ⟨rfl, n1, rfl⟩
          go_wp2_with fail
          refine (left_any _ _ _ _ _ (show IsTape (w5.drewN n1) _ _ _ _ from hT5)).mono ?_
          rintro e w' ⟨rfl, n2, rfl⟩
          go_wp2_with fail
          refine (drawn_any _ _ _ _ _ (show IsTape (w5.drewN _) _ _ _ _ from hT5)).mono ?_
          rintro e w' ⟨rfl, n3, rfl⟩
          go_wp2_with (go_at_call 9; refine (num_any _ _).mono ?_; rintro e w' ⟨rfl, rfl⟩)
          go_ret
          refine ⟨rfl, ?_⟩
          exact ((((hf1.trans hf2).new hf3 (by simp)).new hf4 (by simp)).new hf5 (by simp; omega)).trans (Fr.drewN _ _ _)
end Go.Proofs.Ytchoppeoaehgnaa
