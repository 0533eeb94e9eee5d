/- The law AeadOnly walked. (mkonly.py wrote it.) -/
import Derived.Test.YtichgiecohhmgaaDoorAeadE
namespace Go.Proofs.YtichgiecohhmgaaDoor
open Go.RowKit Go.Lib Go.Joins Base
set_option linter.unusedVariables false
set_option linter.unusedSimpArgs false

theorem str_neq {a b : ByteArray} (h : a ≠ b) : (a.toList == b.toList) = false := by
  rw [ByteArray.toList_eq, ByteArray.toList_eq, beq_eq_false_iff_ne]
  exact fun e => h (ByteArray.ext (Array.toList_inj.1 e))
theorem str_eq {a b : ByteArray} (h : a = b) : (a.toList == b.toList) = true := by rw [h]; exact beq_self_eq_true _
theorem ba_len (a : ByteArray) : a.data.toList.length = a.size := by simp
theorem app_left (a b : ByteArray) (n : Nat) (h : n = a.size) : (a ++ b).extract 0 n = a := by
  apply ByteArray.ext
  apply Array.toList_inj.1
  rw [ByteArray.data_extract, Array.toList_extract, List.extract_eq_take_drop, ByteArray.data_append, Array.toList_append, List.drop_zero]
  rw [List.take_left' (by rw [ba_len]; omega)]
theorem app_right (a b : ByteArray) (n m : Nat) (h : n = a.size) (hm : m = a.size + b.size) : (a ++ b).extract n m = b := by
  apply ByteArray.ext
  apply Array.toList_inj.1
  rw [ByteArray.data_extract, Array.toList_extract, List.extract_eq_take_drop, ByteArray.data_append, Array.toList_append]
  rw [List.drop_left' (by rw [ba_len]; omega), List.take_of_length_le (by rw [ba_len]; omega)]
theorem cut_join (x : ByteArray) (m : Nat) (h : m ≤ x.size) : x.extract 0 m ++ x.extract m x.size = x := by
  apply ByteArray.ext
  apply Array.toList_inj.1
  rw [ByteArray.data_append, Array.toList_append, ByteArray.data_extract, ByteArray.data_extract, Array.toList_extract, Array.toList_extract, List.extract_eq_take_drop, List.extract_eq_take_drop, List.drop_zero]
  rw [List.take_of_length_le (l := x.data.toList.drop m) (by rw [List.length_drop, ba_len]; omega)]
  exact List.take_append_drop _ _
theorem back_of (b : ByteArray) : (⟨b.data.toList.toArray⟩ : ByteArray) = b := by
  apply ByteArray.ext
  simp
def Opens (k n a x : ByteArray) (y : ByteArray) (c : Int) : Prop := ∀ w, Rounds w → Calls Tryd.prog 19 #[.string k, .string n, .string a, .string x] w fun e w' => e = .returned (.tuple #[.string y, .int .i64 c]) ∧ Fr [] w w'
def Seals (k n a x : ByteArray) (y : ByteArray) (c : Int) : Prop := ∀ w, Rounds w → Calls Tryd.prog 10 #[.string k, .string n, .string a, .string x] w fun e w' => e = .returned (.tuple #[.string y, .int .i64 c]) ∧ Fr [] w w'
theorem only_parts (k n a x t : ByteArray) (hk : k.size = 32) (hn : n.size = 12 ∨ n.size = 24) (ha : a.size ≤ 100000) (hx : x.size ≤ 100000) (ht : t.size = 16) :
    ∃ s : ByteArray, s.size = x.size + 16 ∧ Seals k n a x s 0 ∧ ((t = s.extract x.size s.size ∧ Opens k n a (s.extract 0 x.size ++ t) x 0) ∨ (t ≠ s.extract x.size s.size ∧ Opens k n a (s.extract 0 x.size ++ t) ⟨#[]⟩ 61)) ∧
      ((x.size < 16 ∧ Opens k n a x ⟨#[]⟩ 60) ∨ (16 ≤ x.size ∧ Opens k n a x ⟨#[]⟩ 61) ∨ ∃ q, Opens k n a x q 0 ∧ Seals k n a q x 0) := by
  obtain ⟨K, N, hB, hK, hN⟩ := beg_any k n hk hn
  obtain ⟨s, hs⟩ : ∃ s : ByteArray, s = ⟨(sealOf K.data.toList N.data.toList a.data.toList x.data.toList).toArray⟩ := ⟨_, rfl⟩
  obtain ⟨h1, h2, h3⟩ := sealed_parts _ _ _ _ s hs
  rw [ba_len] at h1
  rw [show s.size - 16 = x.size by omega] at h2 h3
  have hCs : (s.extract 0 x.size).size = x.size := by rw [ByteArray.size_extract]; omega
  have hy : (s.extract 0 x.size ++ t).size = x.size + 16 := by rw [ByteArray.size_append]; omega
  have p1 : (s.extract 0 x.size ++ t).extract 0 ((s.extract 0 x.size ++ t).size - 16) = s.extract 0 x.size := app_left _ _ _ (by omega)
  have p2 : (s.extract 0 x.size ++ t).extract ((s.extract 0 x.size ++ t).size - 16) (s.extract 0 x.size ++ t).size = t := app_right _ _ _ _ (by omega) (by rw [ByteArray.size_append])
  refine ⟨s, h1, fun w h => ?_, ?_, ?_⟩
  · rw [hs]; exact seal_any k n a x K N hB hK hN (by omega) (by omega) w h
  · by_cases he : t = s.extract x.size s.size
    · refine .inl ⟨he, fun w h => ?_⟩
      refine (open_any k n a _ K N hB hK hN (by omega) (by omega) (by omega) w h).mono ?_
      rintro e w' (⟨_, rfl, f⟩ | ⟨hne, _⟩)
      · refine ⟨?_, f⟩
        rw [p1, h2, toList_of, cipher_back]
      · exact absurd (by rw [p1, p2, he, h2, h3, toList_of]) hne
    · refine .inr ⟨he, fun w h => ?_⟩
      refine (open_any k n a _ K N hB hK hN (by omega) (by omega) (by omega) w h).mono ?_
      rintro e w' (⟨heq, _⟩ | ⟨_, rfl, f⟩)
      · refine absurd ?_ he
        rw [p1, p2, h2, toList_of] at heq
        rw [h3, heq]
      · exact ⟨rfl, f⟩
  · by_cases h16 : x.size < 16
    · exact .inl ⟨h16, fun w h => open_short k n a x K N hB (by omega) h16 w h⟩
    · by_cases he : x.extract (x.size - 16) x.size = ⟨(tagOf K.data.toList N.data.toList a.data.toList (x.extract 0 (x.size - 16)).data.toList).toArray⟩
      · refine .inr (.inr ⟨⟨(cipherOf K.data.toList N.data.toList (x.extract 0 (x.size - 16)).data.toList).toArray⟩, fun w h => ?_, fun w h => ?_⟩)
        · refine (open_any k n a _ K N hB hK hN (by omega) (by omega) (by omega) w h).mono ?_
          rintro e w' (⟨_, rfl, f⟩ | ⟨hne, _⟩)
          · exact ⟨rfl, f⟩
          · exact absurd he hne
        · have hq : (⟨(cipherOf K.data.toList N.data.toList (x.extract 0 (x.size - 16)).data.toList).toArray⟩ : ByteArray).size ≤ 1048576 := by
            rw [size_of, cipherOf_len, ba_len, ByteArray.size_extract]; omega
          have := seal_any k n a _ K N hB hK hN (by omega) hq w h
          rw [toList_of, sealOf, cipher_back, ← app_of, ← he] at this
          rw [back_of, cut_join x (x.size - 16) (by omega)] at this
          exact this
      · refine .inr (.inl ⟨by omega, fun w h => ?_⟩)
        refine (open_any k n a _ K N hB hK hN (by omega) (by omega) (by omega) w h).mono ?_
        rintro e w' (⟨heq, _⟩ | ⟨_, rfl, f⟩)
        · exact absurd heq he
        · exact ⟨rfl, f⟩
set_option maxRecDepth 100000 in
set_option maxHeartbeats 8000000 in
theorem only_law {w : World} (key : ByteArray) (hkey : key.size ≤ 140737488351232) (nonce : ByteArray) (hnonce : nonce.size ≤ 140737488351232) (long : Bool) (a : ByteArray) (ha0 : a.size ≤ 140737488351232) (x : ByteArray) (hx0 : x.size ≤ 140737488351232) (tag : ByteArray) (htag : tag.size ≤ 140737488351232) (ht : Rounds w) :
    Calls Tryd.prog 7 #[.string key, .string nonce, .bool long, .string a, .string x, .string tag] w fun e w' => e = .returned (.bool true) ∧ Fr [] w w' := by
  have c1 := sized_any key 32 hkey (by omega)
  rw [show ((32 : Nat) : Int) = 32 from rfl] at c1
  obtain ⟨k, hk⟩ : ∃ k : ByteArray, k = ⟨(sizedL key.data.toList 32).toArray⟩ := ⟨_, rfl⟩
  rw [← hk] at c1
  have hks : k.size = 32 := by rw [hk, size_of, sizedL_len]
  have c2 := nonced_any nonce long hnonce
  have c3 := sized_any tag 16 htag (by omega)
  rw [show ((16 : Nat) : Int) = 16 from rfl] at c3
  obtain ⟨t, htt⟩ : ∃ t : ByteArray, t = ⟨(sizedL tag.data.toList 16).toArray⟩ := ⟨_, rfl⟩
  rw [← htt] at c3
  have hts : t.size = 16 := by rw [htt, size_of, sizedL_len]
  by_cases hbig : 100000 < a.size ∨ 100000 < x.size
  · clear hk hks htt hts
    by_cases h1 : 100000 < a.size
    · have l1 : (100000 : Int) < a.size := by omega
      clear hbig h1
      go_enter Tryd.func7, Tryd.ntmps7
      go_wp2_with (first
        | (go_at_call 13; refine (c1 _).mono ?_; rintro e w1 ⟨rfl, f1⟩)
        | (go_at_call 21; refine (c2 _).mono ?_; rintro e w2 ⟨n, rfl, hn, -, f2⟩; have F2 := f1.trans f2)
        | fail)
      go_ret
      exact ⟨rfl, F2⟩
    · have l1 : ¬ (100000 : Int) < a.size := by omega
      have l2 : (100000 : Int) < x.size := by omega
      clear hbig h1
      go_enter Tryd.func7, Tryd.ntmps7
      go_wp2_with (first
        | (go_at_call 13; refine (c1 _).mono ?_; rintro e w1 ⟨rfl, f1⟩)
        | (go_at_call 21; refine (c2 _).mono ?_; rintro e w2 ⟨n, rfl, hn, -, f2⟩; have F2 := f1.trans f2)
        | fail)
      go_ret
      exact ⟨rfl, F2⟩
  · have l1 : ¬ (100000 : Int) < a.size := by omega
    have l2 : ¬ (100000 : Int) < x.size := by omega
    have hP := fun n hn => only_parts k n a x t hks hn (by omega) (by omega) hts
    have w2 : IntKind.i64.wrap ((x.size : Int) + 16) = (x.size : Int) + 16 := IntWalk.i64_in _ (by omega)
    have HX := Lib.hid (And.intro hx0 (And.intro hbig hts))
    have mk1 := hkey
    clear hk hks htt hts hbig hx0
    go_enter Tryd.func7, Tryd.ntmps7
    go_upto_region 5 with (first
      | (go_at_call 13; refine (c1 _).mono ?_; clear c1; rintro e w1 ⟨rfl, f1⟩)
      | (go_at_call 21; refine (c2 _).mono ?_; clear c2; rintro e w2 ⟨n, rfl, hn, -, f2⟩; have F2 := f1.trans f2)
      | fail)
    obtain ⟨s, hsz, cS, hO1, hO2⟩ := hP n hn
    have hszI : (s.size : Int) = (x.size : Int) + 16 := by omega
    have hnq : ((s.size : Int) != (x.size : Int) + 16) = false := by simp [hszI]
    clear hszI
    have hxs : (x.size : Int) ≤ s.size := by omega
    have k1 : ¬ 9223372036854775807 < (s.extract 0 x.size).size + t.size := by
      obtain ⟨h1, h2, h3⟩ := HX.out
      rw [ByteArray.size_extract]; omega
    obtain ⟨C, hC⟩ : ∃ C, C = s.extract 0 x.size := ⟨_, rfl⟩
    obtain ⟨U, hU⟩ : ∃ U, U = s.extract x.size s.size := ⟨_, rfl⟩
    rw [← hC] at hO1 k1
    rw [← hU] at hO1
    obtain ⟨Y, hY⟩ : ∃ Y, Y = C ++ t := ⟨_, rfl⟩
    rw [← hY] at hO1
    have eC := hC.symm
    have eU := hU.symm
    have eY := hY.symm
    clear hP hC hU hY hsz hn
    rcases hO1 with ⟨he, cO1⟩ | ⟨he, cO1⟩
    · have hb := str_eq he
      clear he
      rcases hO2 with ⟨h16, cO2⟩ | ⟨h16, cO2⟩ | ⟨q, cO2, cS2⟩
      · have m1 : (x.size : Int) < 16 := by omega
        unfold Opens at cO1 cO2
        unfold Seals at cS
        clear h16
        go_wp2_with (first
          | (go_at_call 10; refine (cS _ (ht.keep F2 (by simp))).mono ?_; clear cS; rintro e w3 ⟨rfl, f3⟩; have F3 := F2.trans f3)
          | (go_at_call 13; refine (c3 _).mono ?_; clear c3; rintro e w4 ⟨rfl, f4⟩; have F4 := F3.trans f4)
          | (go_at_call 19; refine (cO1 _ (ht.keep F4 (by simp))).mono ?_; clear cO1; rintro e w5 ⟨rfl, f5⟩; have F5 := F4.trans f5)
          | (go_at_call 19; refine (cO2 _ (ht.keep F5 (by simp))).mono ?_; clear cO2; rintro e w6 ⟨rfl, f6⟩; have F6 := F5.trans f6)
          | (go_at_call 12; refine (num6_any _ _).mono ?_; rintro e w4 ⟨rfl, rfl⟩)
          | fail)
        go_ret
        exact ⟨rfl, F6⟩
      · unfold Opens at cO1 cO2
        unfold Seals at cS
        clear h16
        go_wp2_with (first
          | (go_at_call 10; refine (cS _ (ht.keep F2 (by simp))).mono ?_; clear cS; rintro e w3 ⟨rfl, f3⟩; have F3 := F2.trans f3)
          | (go_at_call 13; refine (c3 _).mono ?_; clear c3; rintro e w4 ⟨rfl, f4⟩; have F4 := F3.trans f4)
          | (go_at_call 19; refine (cO1 _ (ht.keep F4 (by simp))).mono ?_; clear cO1; rintro e w5 ⟨rfl, f5⟩; have F5 := F4.trans f5)
          | (go_at_call 19; refine (cO2 _ (ht.keep F5 (by simp))).mono ?_; clear cO2; rintro e w6 ⟨rfl, f6⟩; have F6 := F5.trans f6)
          | (go_at_call 12; refine (num6_any _ _).mono ?_; rintro e w4 ⟨rfl, rfl⟩)
          | fail)
        go_ret
        exact ⟨rfl, F6⟩
      · unfold Opens at cO1 cO2
        unfold Seals at cS cS2
        go_wp2_with (first
          | (go_at_call 10; refine (cS _ (ht.keep F2 (by simp))).mono ?_; clear cS; rintro e w3 ⟨rfl, f3⟩; have F3 := F2.trans f3)
          | (go_at_call 13; refine (c3 _).mono ?_; clear c3; rintro e w4 ⟨rfl, f4⟩; have F4 := F3.trans f4)
          | (go_at_call 19; refine (cO1 _ (ht.keep F4 (by simp))).mono ?_; clear cO1; rintro e w5 ⟨rfl, f5⟩; have F5 := F4.trans f5)
          | (go_at_call 19; refine (cO2 _ (ht.keep F5 (by simp))).mono ?_; clear cO2; rintro e w6 ⟨rfl, f6⟩; have F6 := F5.trans f6)
          | (go_at_call 12; refine (num6_any _ _).mono ?_; rintro e w4 ⟨rfl, rfl⟩)
          | (go_at_call 10; refine (cS2 _ (ht.keep F6 (by simp))).mono ?_; clear cS2; rintro e w7 ⟨rfl, f7⟩; have F7 := F6.trans f7)
          | fail)
        go_ret
        exact ⟨rfl, F7⟩
    · have hb := str_neq he
      clear he
      rcases hO2 with ⟨h16, cO2⟩ | ⟨h16, cO2⟩ | ⟨q, cO2, cS2⟩
      · have m1 : (x.size : Int) < 16 := by omega
        unfold Opens at cO1 cO2
        unfold Seals at cS
        clear h16
        go_wp2_with (first
          | (go_at_call 10; refine (cS _ (ht.keep F2 (by simp))).mono ?_; clear cS; rintro e w3 ⟨rfl, f3⟩; have F3 := F2.trans f3)
          | (go_at_call 13; refine (c3 _).mono ?_; clear c3; rintro e w4 ⟨rfl, f4⟩; have F4 := F3.trans f4)
          | (go_at_call 19; refine (cO1 _ (ht.keep F4 (by simp))).mono ?_; clear cO1; rintro e w5 ⟨rfl, f5⟩; have F5 := F4.trans f5)
          | (go_at_call 19; refine (cO2 _ (ht.keep F5 (by simp))).mono ?_; clear cO2; rintro e w6 ⟨rfl, f6⟩; have F6 := F5.trans f6)
          | (go_at_call 12; refine (num6_any _ _).mono ?_; rintro e w4 ⟨rfl, rfl⟩)
          | fail)
        go_ret
        exact ⟨rfl, F6⟩
      · unfold Opens at cO1 cO2
        unfold Seals at cS
        clear h16
        go_wp2_with (first
          | (go_at_call 10; refine (cS _ (ht.keep F2 (by simp))).mono ?_; clear cS; rintro e w3 ⟨rfl, f3⟩; have F3 := F2.trans f3)
          | (go_at_call 13; refine (c3 _).mono ?_; clear c3; rintro e w4 ⟨rfl, f4⟩; have F4 := F3.trans f4)
          | (go_at_call 19; refine (cO1 _ (ht.keep F4 (by simp))).mono ?_; clear cO1; rintro e w5 ⟨rfl, f5⟩; have F5 := F4.trans f5)
          | (go_at_call 19; refine (cO2 _ (ht.keep F5 (by simp))).mono ?_; clear cO2; rintro e w6 ⟨rfl, f6⟩; have F6 := F5.trans f6)
          | (go_at_call 12; refine (num6_any _ _).mono ?_; rintro e w4 ⟨rfl, rfl⟩)
          | fail)
        go_ret
        exact ⟨rfl, F6⟩
      · unfold Opens at cO1 cO2
        unfold Seals at cS cS2
        go_wp2_with (first
          | (go_at_call 10; refine (cS _ (ht.keep F2 (by simp))).mono ?_; clear cS; rintro e w3 ⟨rfl, f3⟩; have F3 := F2.trans f3)
          | (go_at_call 13; refine (c3 _).mono ?_; clear c3; rintro e w4 ⟨rfl, f4⟩; have F4 := F3.trans f4)
          | (go_at_call 19; refine (cO1 _ (ht.keep F4 (by simp))).mono ?_; clear cO1; rintro e w5 ⟨rfl, f5⟩; have F5 := F4.trans f5)
          | (go_at_call 19; refine (cO2 _ (ht.keep F5 (by simp))).mono ?_; clear cO2; rintro e w6 ⟨rfl, f6⟩; have F6 := F5.trans f6)
          | (go_at_call 12; refine (num6_any _ _).mono ?_; rintro e w4 ⟨rfl, rfl⟩)
          | (go_at_call 10; refine (cS2 _ (ht.keep F6 (by simp))).mono ?_; clear cS2; rintro e w7 ⟨rfl, f7⟩; have F7 := F6.trans f7)
          | fail)
        go_ret
        exact ⟨rfl, F7⟩
end Go.Proofs.YtichgiecohhmgaaDoor
