/- The walk of TapeInOrder: it returns true for every text and every list of numbers. -/
import Derived.Test.YtchoppeoaehgnaaLawApartW
namespace Go.Proofs.Ytchoppeoaehgnaa
open Go.RowKit Go.Lib Base

theorem rowcell {w w' : World} {a : Option Addr} {n : Nat} {F : Nat → Nat → Value} {size k : Nat} (hcell : ∀ i, i < n → ∃ b o, a = some ⟨b, o, none⟩ ∧ ∀ j, j < size → w.cell? ⟨b, o + i * size + j, none⟩ = some (F i j)) (hf : Fr [] w w') (hk : k < n) :
    ∃ b o, a = some ⟨b, o, none⟩ ∧ ∀ j, j < size → w'.cell? ⟨b, o + k * size + j, none⟩ = some (F k j) := by
  obtain ⟨b, o, rfl, hc⟩ := hcell k hk
  refine ⟨b, o, rfl, fun j hj => ?_⟩
  have hc0 := hc j hj
  have hbl : b < w.heap.size := by
    rcases Nat.lt_or_ge b w.heap.size with h' | h'
    · exact h'
    · simp [World.cell?, Array.getElem?_eq_none h'] at hc0
  rw [← hc0]
  simp only [World.cell?]
  rw [hf.block b hbl (by simp)]

@[simp] theorem isTape_drewN (w : World) (n b s : Nat) (rest : List UInt8) (dr : Nat) : IsTape (w.drewN n) b s rest dr ↔ IsTape w b s rest dr := Iff.rfl

set_option maxHeartbeats 4000000 in
set_option maxRecDepth 100000 in
theorem lawOrder_any {w : World} (s : ByteArray) (hs : s.size ≤ 140737488351232) (v : Value) (zs : List Int) (hz : IsInts w v zs) :
    Calls Try.prog 5 #[.string s, v] w fun e w' => e = .returned (.bool true) ∧ Fr [] w w' := by
  obtain ⟨⟨a, cap, rfl, hcap, hmx, hnone, hcell⟩, hlen8, hwf⟩ := hz
  by_cases hb : 67108864 < s.size
  · go_enter Try.func5, Try.ntmps5
    go_wp2_with (first | (go_at_call 8; refine (new_big _ _ hb hs).mono ?_; rintro e w' ⟨rfl, rfl⟩) | (go_at_call 9; refine (num_any _ _).mono ?_; rintro e w' ⟨rfl, rfl⟩))
    go_ret
    exact ⟨rfl, Fr.refl _ _⟩
  · have hzz : s.data.toList.length = s.size := by simp
    go_enter Try.func5, Try.ntmps5
    go_wp2_with fail
    refine (new_any s _ (by omega)).mono ?_
    rintro e w1 ⟨rfl, hf1, hT1⟩
    have l0 := hT1.lt
    have hs1 := hf1.size
    go_wp2_with (go_at_call 9; refine (num_any _ _).mono ?_; rintro e w' ⟨rfl, rfl⟩)
    go_loopw [7, 8, 9] (fun al dry i wr => ∃ (k A : Nat) (d : Bool), al = .int .i64 A ∧ dry = .bool d ∧ i = .int .i64 k ∧ k ≤ zs.length ∧ A ≤ s.size ∧ Fr [w.heap.size + 1, w.heap.size] w1 wr ∧ IsTape wr (w.heap.size + 1) w.heap.size (if d then [] else s.data.toList.drop A) A) (fun _ _ i _ => zs.length - (intOf i).toNat)
    case atStart => exact ⟨0, 0, false, rfl, rfl, rfl, by omega, by omega, Fr.refl _ _, by simpa using hT1⟩
    case round =>
      obtain ⟨k, A, d, rfl, rfl, rfl, hk, hA, hfr, hT⟩ := hrel
      have hfr0 := hf1.new hfr (by simp)
      by_cases hlt : k < zs.length
      · obtain ⟨b, o, rfl, hc⟩ := rowcell hcell hfr0 hlt
        have hcr := hc 0 (by omega)
        rw [Nat.mul_one, Nat.add_zero] at hcr
        have hn := hwf _ (List.getElem_mem hlt)
        generalize hnn : zs.getD k 0 = n at hcr
        have hdl : (s.data.toList.drop A).length = s.size - A := by simp
        cases d
        · simp only [Bool.false_eq_true, if_false] at hT
          by_cases h1 : n < 0
          · skip
            have er : drawR (s.data.toList.drop A) A n = ([], 1, s.data.toList.drop A, A) := by unfold drawR; rw [if_pos h1]
            go_wp2_with fail
            refine (draw_any _ _ _ _ _ _ hT).mono ?_
            rw [er]
            rintro e w3 ⟨rfl, hf3, hT3⟩
            dsimp only at hT3
            go_wp2_with (go_at_call 9; refine (num_any _ _).mono ?_; rintro e w' ⟨rfl, rfl⟩)
            refine (drawn_any _ _ _ _ _ hT3).mono ?_
            rintro e w' ⟨rfl, n1, rfl⟩
            go_wp2_with fail
            refine (left_any _ _ _ _ _ (show IsTape (w3.drewN n1) _ _ _ _ from hT3)).mono ?_
            rintro e w' ⟨rfl, n2, rfl⟩
            go_wp2_with fail
            go_roundw
            case rel => exact ⟨k + 1, _, _, rfl, rfl, by go_num, by omega, by omega, (hfr.trans hf3).trans (Fr.drewN _ _ _), by simpa using hT3⟩
            case measure => simp [intOf]; omega
          by_cases h2 : n = 0
          · subst h2
            have er : drawR (s.data.toList.drop A) A 0 = ([], 0, s.data.toList.drop A, A) := by unfold drawR; simp
            go_wp2_with fail
            refine (draw_any _ _ _ _ _ _ hT).mono ?_
            rw [er]
            rintro e w3 ⟨rfl, hf3, hT3⟩
            dsimp only at hT3
            go_wp2_with (go_at_call 9; refine (num_any _ _).mono ?_; rintro e w' ⟨rfl, rfl⟩)
            refine (drawn_any _ _ _ _ _ hT3).mono ?_
            rintro e w' ⟨rfl, n1, rfl⟩
            go_wp2_with fail
            refine (left_any _ _ _ _ _ (show IsTape (w3.drewN n1) _ _ _ _ from hT3)).mono ?_
            rintro e w' ⟨rfl, n2, rfl⟩
            go_wp2_with fail
            go_roundw
            case rel => exact ⟨k + 1, _, _, rfl, rfl, by go_num, by omega, by omega, (hfr.trans hf3).trans (Fr.drewN _ _ _), by simpa using hT3⟩
            case measure => simp [intOf]; omega
          by_cases h3 : ((s.size - A : Nat) : Int) < n
          · skip
            have er : drawR (s.data.toList.drop A) A n = ([], 10, [], A) := by unfold drawR; rw [if_neg h1, if_pos (by rw [hdl]; exact h3)]
            go_wp2_with fail
            refine (draw_any _ _ _ _ _ _ hT).mono ?_
            rw [er]
            rintro e w3 ⟨rfl, hf3, hT3⟩
            dsimp only at hT3
            go_wp2_with (go_at_call 9; refine (num_any _ _).mono ?_; rintro e w' ⟨rfl, rfl⟩)
            refine (drawn_any _ _ _ _ _ hT3).mono ?_
            rintro e w' ⟨rfl, n1, rfl⟩
            go_wp2_with fail
            refine (left_any _ _ _ _ _ (show IsTape (w3.drewN n1) _ _ _ _ from hT3)).mono ?_
            rintro e w' ⟨rfl, n2, rfl⟩
            go_wp2_with fail
            go_roundw
            case rel => exact ⟨k + 1, _, _, rfl, rfl, by go_num, by omega, by omega, (hfr.trans hf3).trans (Fr.drewN _ _ _), by simpa using hT3⟩
            case measure => simp [intOf]; omega
          · obtain ⟨q, rfl⟩ := Int.eq_ofNat_of_zero_le (by omega : 0 ≤ n)
            have hq : A + q ≤ s.size := by omega
            have hq0 : 0 < q := by omega
            have er : drawR (s.data.toList.drop A) A ↑q = ((s.data.toList.drop A).take q, 0, (s.data.toList.drop A).drop q, A + q) := by unfold drawR; rw [if_neg h1, if_neg (by rw [hdl]; exact h3)]; simp
            go_wp2_with fail
            refine (draw_any _ _ _ _ _ _ hT).mono ?_
            rw [er]
            rintro e w3 ⟨rfl, hf3, hT3⟩
            dsimp only at hT3
            rw [List.drop_drop] at hT3
            have hdl2 : (s.data.toList.drop (A + q)).length = s.size - (A + q) := by simp
            have hx : (s.extract A (A + q)).toList = List.take q (List.drop A s.data.toList) := by rw [extract_toList, show A + q - A = q by omega]
            go_wp2_with (go_at_call 9; refine (num_any _ _).mono ?_; rintro e w' ⟨rfl, rfl⟩)
            refine (drawn_any _ _ _ _ _ hT3).mono ?_
            rintro e w' ⟨rfl, n1, rfl⟩
            go_wp2_with fail
            refine (left_any _ _ _ _ _ (show IsTape (w3.drewN n1) _ _ _ _ from hT3)).mono ?_
            rintro e w' ⟨rfl, n2, rfl⟩
            go_wp2_with fail
            go_roundw
            case rel => exact ⟨k + 1, _, _, rfl, rfl, by go_num, by omega, by omega, (hfr.trans hf3).trans (Fr.drewN _ _ _), by simpa using hT3⟩
            case measure => simp [intOf]; omega
        · simp only [if_true] at hT
          by_cases h1 : n < 0
          · skip
            have er : drawR ([]) A n = ([], 1, [], A) := by unfold drawR; rw [if_pos h1]
            go_wp2_with fail
            refine (draw_any _ _ _ _ _ _ hT).mono ?_
            rw [er]
            rintro e w3 ⟨rfl, hf3, hT3⟩
            dsimp only at hT3
            go_wp2_with (go_at_call 9; refine (num_any _ _).mono ?_; rintro e w' ⟨rfl, rfl⟩)
            refine (drawn_any _ _ _ _ _ hT3).mono ?_
            rintro e w' ⟨rfl, n1, rfl⟩
            go_wp2_with fail
            refine (left_any _ _ _ _ _ (show IsTape (w3.drewN n1) _ _ _ _ from hT3)).mono ?_
            rintro e w' ⟨rfl, n2, rfl⟩
            go_wp2_with fail
            go_roundw
            case rel => exact ⟨k + 1, _, _, rfl, rfl, by go_num, by omega, by omega, (hfr.trans hf3).trans (Fr.drewN _ _ _), by simpa using hT3⟩
            case measure => simp [intOf]; omega
          by_cases h2 : n = 0
          · subst h2
            have er : drawR ([]) A 0 = ([], 0, [], A) := by unfold drawR; simp
            go_wp2_with fail
            refine (draw_any _ _ _ _ _ _ hT).mono ?_
            rw [er]
            rintro e w3 ⟨rfl, hf3, hT3⟩
            dsimp only at hT3
            go_wp2_with (go_at_call 9; refine (num_any _ _).mono ?_; rintro e w' ⟨rfl, rfl⟩)
            refine (drawn_any _ _ _ _ _ hT3).mono ?_
            rintro e w' ⟨rfl, n1, rfl⟩
            go_wp2_with fail
            refine (left_any _ _ _ _ _ (show IsTape (w3.drewN n1) _ _ _ _ from hT3)).mono ?_
            rintro e w' ⟨rfl, n2, rfl⟩
            go_wp2_with fail
            go_roundw
            case rel => exact ⟨k + 1, _, _, rfl, rfl, by go_num, by omega, by omega, (hfr.trans hf3).trans (Fr.drewN _ _ _), by simpa using hT3⟩
            case measure => simp [intOf]; omega
          · skip
            have er : drawR ([]) A n = ([], 10, [], A) := by unfold drawR; rw [if_neg h1, if_pos (by simp; omega)]
            go_wp2_with fail
            refine (draw_any _ _ _ _ _ _ hT).mono ?_
            rw [er]
            rintro e w3 ⟨rfl, hf3, hT3⟩
            dsimp only at hT3
            go_wp2_with (go_at_call 9; refine (num_any _ _).mono ?_; rintro e w' ⟨rfl, rfl⟩)
            refine (drawn_any _ _ _ _ _ hT3).mono ?_
            rintro e w' ⟨rfl, n1, rfl⟩
            go_wp2_with fail
            refine (left_any _ _ _ _ _ (show IsTape (w3.drewN n1) _ _ _ _ from hT3)).mono ?_
            rintro e w' ⟨rfl, n2, rfl⟩
            go_wp2_with fail
            go_roundw
            case rel => exact ⟨k + 1, _, _, rfl, rfl, by go_num, by omega, by omega, (hfr.trans hf3).trans (Fr.drewN _ _ _), by simpa using hT3⟩
            case measure => simp [intOf]; omega
      · go_wp2_with fail
        go_ret
        exact ⟨rfl, hfr0⟩
end Go.Proofs.Ytchoppeoaehgnaa
