/- The walk of TapeApart: it returns true for every text and every list of numbers. -/
import Derived.Test.YtchoppeoaehgnaaLawSplitW
import Derived.Test.YtchoppeoaehgnaaShapes
namespace Go.Proofs.Ytchoppeoaehgnaa
open Go.RowKit Go.Lib Base

theorem ints_in {H : Type} {enc : TypeId × Value → H} {W : World} {base : Nat} {v : Value} {d : DataW H} {p : List MemPlace} {ts : List TypeId} {ds : List (DataW H)} {j : Nat}
    (hv : Value.okWide Try.prog W .any base 37 v) (h : DataW.Trod enc Try.prog W 0 (fun _ => true) true 37 v d p) (hsz : (DataW.weightsEach Try.prog ts ds).all (· ≤ reachBytes) = true) (hts : ts[j]? = some 37) (hds : ds[j]? = some d) :
    ∃ zs : List Int, IsInts W v zs := ints_open Try.underlying37 Try.underlying3 (by kernel_rfl) (by kernel_rfl) hv h hsz hts hds

set_option maxHeartbeats 4000000 in
set_option maxRecDepth 100000 in
theorem lawApart_any {w : World} (s : ByteArray) (hs : s.size ≤ 140737488351232) (v : Value) (zs : List Int) (hz : IsInts w v zs) :
    Calls Try.prog 7 #[.string s, v] w fun e w' => e = .returned (.bool true) ∧ Fr [] w w' := by
  obtain ⟨⟨a, cap, rfl, hcap, hmx, hnone, hcell⟩, hlen8, hwf⟩ := hz
  by_cases hb : 67108864 < s.size
  · go_enter Try.func7, Try.ntmps7
    go_wp2_with (go_at_call 3; refine (lawNew_any _ hs _).mono ?_; rintro e w' ⟨rfl, hf⟩)
    go_ret
    exact ⟨rfl, hf⟩
  · have hzz : s.data.toList.length = s.size := by simp
    go_enter Try.func7, Try.ntmps7
    go_wp2_with fail
    refine (new_any s _ (by omega)).mono ?_
    rintro e w1 ⟨rfl, hf1, hT1⟩
    go_wp2_with fail
    refine (new_any s _ (by omega)).mono ?_
    rintro e w2 ⟨rfl, hf2, hT2⟩
    have l0 := hT1.lt
    have hT1 := hT1.keep hf2 (by simp) (by simp)
    have l1 := hT1.lt
    have hs1 := hf1.size
    have hs2 := hf2.size
    have l2 := hT2.lt
    go_wp2_with (go_at_call 9; refine (num_any _ _).mono ?_; rintro e w' ⟨rfl, rfl⟩)
    go_loopw [9] (fun i wr => ∃ k : Nat, i = .int .i64 k ∧ k ≤ zs.length ∧ Fr [w.heap.size + 1, w.heap.size] w2 wr ∧ ∃ rest dr, IsTape wr (w.heap.size + 1) w.heap.size rest dr) (fun i _ => zs.length - (intOf i).toNat)
    case atStart => exact ⟨0, rfl, by omega, Fr.refl _ _, _, _, hT1⟩
    case round =>
      obtain ⟨k, rfl, hk, hfr, rest, dr, hT⟩ := hrel
      by_cases hlt : k < zs.length
      · obtain ⟨b, o, rfl, hc⟩ := hcell k hlt
        have hc0 := hc 0 (by omega)
        have hbl : b < w.heap.size := by
          rcases Nat.lt_or_ge b w.heap.size with h' | h'
          · exact h'
          · simp [World.cell?, Array.getElem?_eq_none h'] at hc0
        have hcr : wr.cell? ⟨b, o + k, none⟩ = some (.int .i64 (zs.getD k 0)) := by
          rw [Nat.mul_one, Nat.add_zero] at hc0
          rw [← hc0]
          simp only [World.cell?]
          rw [((hf1.trans hf2).new hfr (by simp)).block b hbl (by simp)]
        go_wp2_with fail
        refine (draw_any _ _ _ _ _ _ hT).mono ?_
        rintro e w3 ⟨rfl, hf3, hT3⟩
        go_wp2_with fail
        go_roundw
        case rel => exact ⟨k + 1, by go_num, by omega, hfr.trans hf3, _, _, hT3⟩
        case measure => simp [intOf]; omega
      · have hT2 := hT2.keep hfr (by simp; omega) (by simp; omega)
        go_wp2_with fail
        refine (draw_ok _ _ _ _ _ _ hT2 (by omega)).mono ?_
        rintro e w3 ⟨rfl, hf3, hT3⟩
        rw [List.drop_of_length_le (by omega)] at hT3
        have ht : (List.take s.size s.data.toList) = s.data.toList := List.take_of_length_le (by omega)
        go_wp2_with (go_at_call 9; refine (num_any _ _).mono ?_; rintro e w' ⟨rfl, rfl⟩)
        refine (left_any _ _ _ _ _ hT3).mono ?_
        rintro e w' ⟨rfl, n1, rfl⟩
        go_wp2_with fail
        refine (drawn_any _ _ _ _ _ (show IsTape (w3.drewN _) _ _ _ _ from hT3)).mono ?_
        rintro e w' ⟨rfl, n3, rfl⟩
        go_wp2_with fail
        go_ret
        refine ⟨rfl, ?_⟩
        exact (((hf1.trans hf2).new hfr (by simp)).new hf3 (by simp; omega)).trans (Fr.drewN _ _ _)
end Go.Proofs.Ytchoppeoaehgnaa
