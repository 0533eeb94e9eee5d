/- The law AeadBack walked. -/
import Derived.Test.YtichgiecohhmgaaDoorAeadE
namespace Go.Proofs.YtichgiecohhmgaaDoor
open Go.RowKit Go.Lib Go.Joins Base
set_option linter.unusedVariables false
set_option linter.unusedSimpArgs false

theorem tmod_range (n H : Int) (h : 0 < H) : -H < n.tmod H ∧ n.tmod H < H := by
  refine ⟨?_, Int.tmod_lt_of_pos _ h⟩
  have := Int.tmod_lt_of_pos (-n) h
  rw [Int.neg_tmod] at this; omega
theorem int_range6 {n : Int} (h : (Lit.int .i64 n).wf = true) : -9223372036854775808 ≤ n ∧ n ≤ 9223372036854775807 := by
  have := h
  simp [Lit.wf, IntKind.min, IntKind.max, IntKind.signed, IntKind.bits] at this
  omega
set_option maxRecDepth 100000 in
set_option maxHeartbeats 4000000 in
theorem back_law {w : World} (key : ByteArray) (hkey : key.size ≤ 140737488351232) (nonce : ByteArray) (hnonce : nonce.size ≤ 140737488351232) (long : Bool) (a : ByteArray) (ha0 : a.size ≤ 140737488351232) (p : ByteArray) (hp0 : p.size ≤ 140737488351232) (cut : Int) (hcut : (Lit.int .i64 cut).wf = true) (ht : Rounds w) :
    Calls Tryd.prog 6 #[.string key, .string nonce, .bool long, .string a, .string p, .int .i64 cut] w fun e w' => e = .returned (.bool true) ∧ Fr [] w w' := by
  have hc := int_range6 hcut
  have c1 := sized_any key 32 hkey (by omega)
  rw [show ((32 : Nat) : Int) = 32 from rfl] at c1
  obtain ⟨k, hk⟩ : ∃ k : ByteArray, k = ⟨(sizedL key.data.toList 32).toArray⟩ := ⟨_, rfl⟩
  rw [← hk] at c1
  have hks : k.size = 32 := by rw [hk, size_of, sizedL_len]
  have c2 := nonced_any nonce long hnonce
  by_cases hbig : 1048576 < a.size ∨ 1048576 < p.size
  · have cS := fun n hn w h => (by
      obtain ⟨K, N, hB, hK, hN⟩ := beg_any k n hks hn
      exact seal_big k n a p K N hB hbig w h : Calls Tryd.prog 10 #[.string k, .string n, .string a, .string p] w fun e w' => e = .returned (.tuple #[.string ⟨#[]⟩, .int .i64 3]) ∧ Fr [] w w')
    clear hk hks hc hcut
    by_cases h1 : 1048576 < a.size
    · have l1 : (1048576 : Int) < a.size := by omega
      clear hbig h1
      go_enter Tryd.func6, Tryd.ntmps6
      go_wp2_with (first
        | (go_at_call 13; refine (c1 _).mono ?_; rintro e w1 ⟨rfl, f1⟩)
        | (go_at_call 21; refine (c2 _).mono ?_; rintro e w2 ⟨n, rfl, hn, -, f2⟩; have F2 := f1.trans f2)
        | (go_at_call 10; refine (cS n hn _ (ht.keep F2 (by simp))).mono ?_; rintro e w3 ⟨rfl, f3⟩)
        | (go_at_call 12; refine (num6_any _ _).mono ?_; rintro e w4 ⟨rfl, rfl⟩)
        | fail)
      go_ret
      exact ⟨rfl, F2.trans f3⟩
    · have l1 : ¬ (1048576 : Int) < a.size := by omega
      have l2 : (1048576 : Int) < p.size := by omega
      clear hbig h1
      go_enter Tryd.func6, Tryd.ntmps6
      go_wp2_with (first
        | (go_at_call 13; refine (c1 _).mono ?_; rintro e w1 ⟨rfl, f1⟩)
        | (go_at_call 21; refine (c2 _).mono ?_; rintro e w2 ⟨n, rfl, hn, -, f2⟩; have F2 := f1.trans f2)
        | (go_at_call 10; refine (cS n hn _ (ht.keep F2 (by simp))).mono ?_; rintro e w3 ⟨rfl, f3⟩)
        | (go_at_call 12; refine (num6_any _ _).mono ?_; rintro e w4 ⟨rfl, rfl⟩)
        | fail)
      go_ret
      exact ⟨rfl, F2.trans f3⟩
  · have l1 : ¬ (1048576 : Int) < a.size := by omega
    have l2 : ¬ (1048576 : Int) < p.size := by omega
    have ha : a.size ≤ 1048576 := by omega
    have hp : p.size ≤ 1048576 := by omega
    obtain ⟨h1, h2⟩ := tmod_range cut 16 (by omega)
    have w1 : IntKind.i64.wrap (cut.tmod 16 + 16) = cut.tmod 16 + 16 := IntWalk.i64_in _ (by omega)
    have e1 : ∀ t, binOp .rem t (.int .i64 cut) (.int .i64 16) = pure (.int .i64 (cut.tmod 16)) := by
      intro t
      simp only [binOp, Op.intDiv]
      rw [if_neg (by simp)]
      rw [if_neg (by omega)]
    obtain ⟨j, hj⟩ : ∃ j, j = (cut.tmod 16 + 16).toNat % 16 := ⟨_, rfl⟩
    have e2 : ∀ t, binOp .rem t (.int .i64 (cut.tmod 16 + 16)) (.int .i64 16) = pure (.int .i64 (j : Int)) := by
      intro t
      simp only [binOp, Op.intDiv]
      rw [if_neg (by simp)]
      rw [if_neg (by omega)]
      rw [Int.tmod_eq_emod_of_nonneg (by omega)]
      congr 2; omega
    have hj16 : j < 16 := by omega
    generalize cut.tmod 16 = cm at w1 e1 e2 h1 h2 hj
    have w2 : IntKind.i64.wrap ((p.size : Int) + 16) = (p.size : Int) + 16 := IntWalk.i64_in _ (by omega)
    have cS : ∀ n : ByteArray, (n.size = 12 ∨ n.size = 24) → ∃ s : ByteArray, s.size = p.size + 16 ∧ (∀ w, Rounds w → Calls Tryd.prog 10 #[.string k, .string n, .string a, .string p] w fun e w' => e = .returned (.tuple #[.string s, .int .i64 0]) ∧ Fr [] w w') ∧
        (∀ w, Rounds w → Calls Tryd.prog 19 #[.string k, .string n, .string a, .string s] w fun e w' => e = .returned (.tuple #[.string p, .int .i64 0]) ∧ Fr [] w w') ∧
        (∀ w, Rounds w → Calls Tryd.prog 19 #[.string k, .string n, .string a, .string (s.extract 0 j)] w fun e w' => e = .returned (.tuple #[.string ⟨#[]⟩, .int .i64 60]) ∧ Fr [] w w') := by
      intro n hn
      obtain ⟨K, N, hB, hK, hN⟩ := beg_any k n hks hn
      obtain ⟨s, hs⟩ : ∃ s : ByteArray, s = ⟨(sealOf K.data.toList N.data.toList a.data.toList p.data.toList).toArray⟩ := ⟨_, rfl⟩
      have hsz : s.size = p.size + 16 := by rw [hs, size_of, sealOf_len]; simp
      refine ⟨s, hsz, fun w h => ?_, fun w h => ?_, fun w h => ?_⟩
      · rw [hs]; exact seal_any k n a p K N hB hK hN ha hp w h
      · exact open_sealed k n a p K N s hs hB hK hN ha hp w h
      · exact open_short k n a (s.extract 0 j) K N hB ha (by rw [ByteArray.size_extract]; omega) w h
    have hjI : (0 : Int) ≤ j := by omega
    have HJ := Lib.hid (And.intro hj16 (And.intro ha hp))
    clear hk hks hc hcut hbig h1 h2 hj hj16 ha hp
    go_enter Tryd.func6, Tryd.ntmps6
    go_upto_region 4 with (first
      | (go_at_call 13; refine (c1 _).mono ?_; rintro e w1 ⟨rfl, f1⟩)
      | (go_at_call 21; refine (c2 _).mono ?_; rintro e w2 ⟨n, rfl, hn, -, f2⟩; have F2 := f1.trans f2)
      | fail)
    obtain ⟨s, hsz, cS1, cO1, cO2⟩ := cS n hn
    have hszI : (s.size : Int) = (p.size : Int) + 16 := by omega
    have hnq : ((s.size : Int) != (p.size : Int) + 16) = false := by simp [hszI]
    have hjl : (j : Int) ≤ s.size := by have := HJ.out.1; omega
    obtain ⟨u, hu⟩ : ∃ u, u = s.extract 0 j := ⟨_, rfl⟩
    rw [← hu] at cO2
    have eu := hu.symm
    clear cS c1 c2 hsz hszI hu hn
    go_wp2_with (first
      | (go_at_call 10; refine (cS1 _ (ht.keep F2 (by simp))).mono ?_; clear cS1; rintro e w3 ⟨rfl, f3⟩; have F3 := F2.trans f3)
      | (go_at_call 19; refine (cO1 _ (ht.keep F3 (by simp))).mono ?_; clear cO1; rintro e w4 ⟨rfl, f4⟩; have F4 := F3.trans f4)
      | (go_at_call 19; refine (cO2 _ (ht.keep F4 (by simp))).mono ?_; clear cO2; rintro e w5 ⟨rfl, f5⟩; have F5 := F4.trans f5)
      | (go_at_call 12; refine (num6_any _ _).mono ?_; rintro e w4 ⟨rfl, rfl⟩)
      | fail)
    go_ret
    exact ⟨rfl, F5⟩
end Go.Proofs.YtichgiecohhmgaaDoor
