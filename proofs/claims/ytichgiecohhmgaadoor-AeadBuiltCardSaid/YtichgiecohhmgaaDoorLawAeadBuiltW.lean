/- The law AeadBuilt walked. -/
import Derived.Test.YtichgiecohhmgaaDoorAeadE
import Derived.Test.YtichgiecohhmgaaDoorQuiet
namespace Go.Proofs.YtichgiecohhmgaaDoor
open Go.RowKit Go.Lib Go.Joins Base
set_option linter.unusedVariables false
set_option linter.unusedSimpArgs false

theorem quoI (x k : Nat) (hk : k ≠ 0) (hx : x < 9223372036854775808) (t : TypeId) : binOp .quo t (.int .i64 (x : Int)) (.int .i64 (k : Int)) = pure (.int .i64 ((x / k : Nat) : Int)) := by
  have e : (x : Int).tdiv (k : Int) = ((x / k : Nat) : Int) := by rw [Int.tdiv_eq_ediv_of_nonneg (by omega)]; simp
  have h0 : (k : Int) ≠ 0 := by omega
  have hle : x / k ≤ x := Nat.div_le_self _ _
  simp only [binOp, Op.intDiv]
  rw [if_neg (by simp), e, wrapI_nat _ (by omega), if_neg h0]
theorem remI (x k : Nat) (hk : k ≠ 0) (t : TypeId) : binOp .rem t (.int .i64 (x : Int)) (.int .i64 (k : Int)) = pure (.int .i64 ((x % k : Nat) : Int)) := by
  have e : (x : Int).tmod (k : Int) = ((x % k : Nat) : Int) := by rw [Int.tmod_eq_emod_of_nonneg (by omega)]; simp
  have h0 : (k : Int) ≠ 0 := by omega
  simp only [binOp, Op.intDiv]
  rw [if_neg (by simp), e, if_neg h0]
theorem byteI (x : Nat) : IntKind.u8.wrap ((x % 256 : Nat) : Int) = bt (UInt8.ofNat x) := by
  rw [wrap8_nat _ (by omega)]
  unfold bt; simp

theorem sizeL_get (n i : Nat) (h : i < 8) : (sizeL n)[i]? = some (UInt8.ofNat (n / 2 ^ (8 * i))) := by
  simp [sizeL, h]
theorem sizeL_take (n i : Nat) (h : i < 8) : (sizeL n).take (i + 1) = (sizeL n).take i ++ [UInt8.ofNat (n / 2 ^ (8 * i))] := by
  rw [List.take_add_one, sizeL_get n i h]; rfl
set_option maxRecDepth 100000 in
set_option maxHeartbeats 1000000 in
theorem eight_any (n : Nat) (hn : n < 9223372036854775808) (w : World) :
    Calls Tryd.prog 18 #[.int .i64 n] w fun e w' => e = .returned (.string ⟨(sizeL n).toArray⟩) ∧ Fr [] w w' := by
  have hi5 : (Tryd.prog.info? 5).map (fun i => (i.zero, i.size, i.bytes)) = some (some (.int .u8 0), 1, 1) := by kernel_rfl
  obtain ⟨iI, hiI, hz0, hz1, hz2⟩ := info_parts hi5
  have e0 : (n : Int) = ((n / 2 ^ (8 * 0) : Nat) : Int) := by simp
  go_enter Tryd.func18, Tryd.ntmps18
  go_wp2_with fail
  go_loopw [0, 3, 4] (fun v0 v3 v4 wr => ∃ i : Nat, i ≤ 8 ∧ v4 = .int .i64 i ∧ v0 = .int .i64 ((n / 2 ^ (8 * i) : Nat) : Int) ∧ wr.ownsRow w.heap.size 5 1 v3 i (byteCells ((sizeL n).take i)) ∧ Below w.heap.size w wr) (fun _ _ v _ => 8 - (RowKit.intOf v).toNat)
  case atStart => exact ⟨0, by omega, rfl, by simp, World.ownsRow_nil _ _ _ _, Below.refl _ _⟩
  case round =>
    obtain ⟨i, hi, rfl, rfl, h0, hF⟩ := hrel
    have hsz := hF.size
    by_cases hl : i < 8
    · have l1 : (i : Int) < 8 := by omega
      have w2 : IntKind.i64.wrap ((i : Int) + 1) = ((i + 1 : Nat) : Int) := by rw [IntWalk.i64_in _ (by omega)]; omega
      have ht := sizeL_take n i hl
      have hnx : n / 2 ^ (8 * (i + 1)) = n / 2 ^ (8 * i) / 256 := by
        rw [show 8 * (i + 1) = 8 * i + 8 by omega, Nat.pow_add, ← Nat.div_div_eq_div_mul]
      have hx : n / 2 ^ (8 * i) < 9223372036854775808 := Nat.lt_of_le_of_lt (Nat.div_le_self _ _) hn
      generalize n / 2 ^ (8 * i) = X at ht hnx hx ⊢
      have d3 : ∀ t, binOp .quo t (.int .i64 (X : Int)) (.int .i64 256) = pure (.int .i64 ((X / 256 : Nat) : Int)) := fun t => quoI X 256 (by omega) (by omega) t
      have e4 : ∀ t, binOp .rem t (.int .i64 (X : Int)) (.int .i64 256) = pure (.int .i64 ((X % 256 : Nat) : Int)) := fun t => remI X 256 (by omega) t
      have b4 := byteI X
      generalize ((X % 256 : Nat) : Int) = y4 at e4 b4
      obtain ⟨Z, hZ⟩ : ∃ Z, Z = X / 256 := ⟨_, rfl⟩
      rw [← hZ] at d3 hnx
      generalize hu : UInt8.ofNat X = u at b4 ht
      have HT := Lib.hid (And.intro ht hnx)
      have A2 := At.alloc_new wr 5 #[Value.int .u8 (bt u)]
      clear ht hx hnx hu hZ e0
      go_wp2_with (first
        | (at_builtin; refine wpList_append_own _ rfl _ _ _ rfl w.heap.size 5 iI (.int .u8 0) 1 1 Tryd.underlying35 hiI hz0 hz1 hz2 rfl (by decide) _ i _ rfl (World.ownsRow.alloc h0 _) ⟨wr.heap.size, 0, none⟩ 1 1 (byteCells [u]) rfl rfl (by intro j u' hj; rw [addr_add', Nat.zero_add]; exact (A2.cell j).trans hj) (byteCells_one _) (by simp [maxLen]; omega) (by omega) (by simp; omega) ?_; intro v2 w2 o2 gr2 _)
        | fail)
      refine ⟨⟨i + 1, by omega, by simp, by rw [HT.out.2], ?_, ?_⟩, by simp only [RowKit.intOf]; omega⟩
      · rw [HT.out.1]
        simpa [byteCells] using o2
      · refine (hF.alloc (by omega) _).grown gr2 (by simp; omega) ?_
        intro x hx
        exact (h0.lt x hx).1
    · obtain rfl : i = 8 := by omega
      have l1 : ¬ ((8 : Nat) : Int) < 8 := by omega
      rw [List.take_of_length_le (by rw [sizeL_len]; omega)] at h0
      have hcv := run_strOwn (P := Tryd.prog) Tryd.underlying35 Tryd.underlying5 Tryd.underlying9 h0
      go_wp2_with fail
      go_ret
      exact ⟨rfl, Fr.ofBelow hF⟩
theorem filled_any (s : ByteArray) (hs : s.size ≤ 1048576) (w : World) :
    Calls Tryd.prog 17 #[.string s] w fun e w' => e = .returned (.string ⟨(s.data.toList ++ fillL s.size).toArray⟩) ∧ Fr [] w w' := by
  obtain ⟨m, hm⟩ : ∃ m, m = (s.size + 15) / 16 * 16 := ⟨_, rfl⟩
  have c1 := sized_any s m (by omega) (by omega)
  have hsl : s.data.toList.length = s.size := by simp
  have hL : sizedL s.data.toList m = s.data.toList ++ fillL s.size := by
    unfold sizedL fillL
    rw [hsl, show m - s.size = (16 - s.size % 16) % 16 by omega, List.take_of_length_le (by rw [List.length_append, hsl]; simp [zerosB]; omega)]
  rw [hL] at c1
  have w1 : IntKind.i64.wrap ((s.size : Int) + 15) = ((s.size + 15 : Nat) : Int) := by rw [IntWalk.i64_in _ (by omega)]; omega
  have d1 : ∀ t, binOp .quo t (.int .i64 ((s.size + 15 : Nat) : Int)) (.int .i64 16) = pure (.int .i64 (((s.size + 15) / 16 : Nat) : Int)) := fun t => quoI (s.size + 15) 16 (by omega) (by omega) t
  obtain ⟨y, hy⟩ : ∃ y, y = (s.size + 15) / 16 := ⟨_, rfl⟩
  have w2 : IntKind.i64.wrap ((y : Int) * 16) = (m : Int) := by rw [show (y : Int) * 16 = (m : Int) by omega]; exact IntWalk.i64_in _ (by omega)
  rw [← hy] at d1
  generalize ((s.size + 15 : Nat) : Int) = z at w1 d1
  clear hm hy hL
  go_enter Tryd.func17, Tryd.ntmps17
  go_wp2_with (first
    | (go_at_call 13; refine (c1 _).mono ?_; rintro e w1 ⟨rfl, f1⟩)
    | fail)
  go_ret
  exact ⟨rfl, f1⟩
set_option maxRecDepth 100000 in
set_option maxHeartbeats 4000000 in
theorem built_law {w : World} (key : ByteArray) (hkey : key.size ≤ 140737488351232) (nonce : ByteArray) (hnonce : nonce.size ≤ 140737488351232) (a : ByteArray) (ha0 : a.size ≤ 140737488351232) (p : ByteArray) (hp0 : p.size ≤ 140737488351232) (ht : Rounds w) :
    Calls Tryd.prog 4 #[.string key, .string nonce, .string a, .string p] w fun e w' => e = .returned (.bool true) ∧ Fr [] w w' := by
  by_cases hbig : 100000 < a.size ∨ 100000 < p.size
  · by_cases h1 : 100000 < a.size
    · have l1 : (100000 : Int) < a.size := by omega
      clear hbig h1
      go_enter Tryd.func4, Tryd.ntmps4
      go_wp2_with fail
      go_ret
      exact ⟨rfl, Fr.refl _ _⟩
    · have l1 : ¬ (100000 : Int) < a.size := by omega
      have l2 : (100000 : Int) < p.size := by omega
      clear hbig h1
      go_enter Tryd.func4, Tryd.ntmps4
      go_wp2_with fail
      go_ret
      exact ⟨rfl, Fr.refl _ _⟩
  · have l1 : ¬ (100000 : Int) < a.size := by omega
    have l2 : ¬ (100000 : Int) < p.size := by omega
    have ha : a.size ≤ 1048576 := by omega
    have hp : p.size ≤ 1048576 := by omega
    have c1 := sized_any key 32 hkey (by omega)
    rw [show ((32 : Nat) : Int) = 32 from rfl] at c1
    obtain ⟨k, hk⟩ : ∃ k : ByteArray, k = ⟨(sizedL key.data.toList 32).toArray⟩ := ⟨_, rfl⟩
    rw [← hk] at c1
    have hks : k.size = 32 := by rw [hk, size_of, sizedL_len]
    have c2 := sized_any nonce 12 hnonce (by omega)
    rw [show ((12 : Nat) : Int) = 12 from rfl] at c2
    obtain ⟨n, hn⟩ : ∃ n : ByteArray, n = ⟨(sizedL nonce.data.toList 12).toArray⟩ := ⟨_, rfl⟩
    rw [← hn] at c2
    have hns : n.size = 12 := by rw [hn, size_of, sizedL_len]
    have hB : Begins k n k n := fun w _ => begin_short k n hks hns w
    have cS := fun w h => seal_any k n a p k n hB hks hns ha hp w h
    have cX := fun w h => xor1_any k n p hks hns hp w h
    have cB := fun w h => block_ok k n hks hns 0 w h
    rw [show wd 0 = 0 from rfl] at cB
    have hkl : k.data.toList.length = 32 := by rw [← hks]; simp
    have hnl : n.data.toList.length = 12 := by rw [← hns]; simp
    obtain ⟨B, hBB⟩ : ∃ B : ByteArray, B = ⟨(blk k.data.toList n.data.toList 0).toArray⟩ := ⟨_, rfl⟩
    obtain ⟨C, hC⟩ : ∃ C : ByteArray, C = ⟨(cipherOf k.data.toList n.data.toList p.data.toList).toArray⟩ := ⟨_, rfl⟩
    have hCd : C.data.toList = cipherOf k.data.toList n.data.toList p.data.toList := by rw [hC]
    have hCs : C.size = p.size := by rw [hC, size_of, cipherOf_len]; simp
    have hBd : B.data.toList = blk k.data.toList n.data.toList 0 := by rw [hBB]
    have hBs : B.size = 64 := by rw [hBB, size_of, blk_len _ _ _ hkl hnl]
    obtain ⟨h32, hh32⟩ : ∃ h, h = B.extract 0 32 := ⟨_, rfl⟩
    have hh : h32.size = 32 := by rw [hh32, ByteArray.size_extract]; omega
    have hhd : h32.data.toList = (blk k.data.toList n.data.toList 0).take 32 := by
      rw [hh32, ByteArray.data_extract, Array.toList_extract, List.extract_eq_take_drop, hBd, List.drop_zero, Nat.sub_zero]
    obtain ⟨F, hF⟩ : ∃ F : ByteArray → ByteArray, F = fun x => ⟨(x.data.toList ++ fillL x.size).toArray⟩ := ⟨_, rfl⟩
    obtain ⟨E, hE⟩ : ∃ E : Nat → ByteArray, E = fun m => ⟨(sizeL m).toArray⟩ := ⟨_, rfl⟩
    have cF : ∀ x w, x.size ≤ 1048576 → Calls Tryd.prog 17 #[.string x] w fun e w' => e = .returned (.string (F x)) ∧ Fr [] w w' := fun x w h => by rw [hF]; exact filled_any x h w
    have cE : ∀ (m : Nat) w, m < 9223372036854775808 → Calls Tryd.prog 18 #[.int .i64 (m : Int)] w fun e w' => e = .returned (.string (E m)) ∧ Fr [] w w' := fun m w h => by rw [hE]; exact eight_any m h w
    have hf1 : F a = ⟨(a.data.toList ++ fillL a.size).toArray⟩ := by rw [hF]
    have hf2 : F C = ⟨(C.data.toList ++ fillL C.size).toArray⟩ := by rw [hF]
    have hs1 : E a.size = ⟨(sizeL a.size).toArray⟩ := by rw [hE]
    have hs2 : E p.size = ⟨(sizeL p.size).toArray⟩ := by rw [hE]
    have hCle : C.size ≤ 1048576 := by omega
    have hae : a.size < 9223372036854775808 := by omega
    have hpe : p.size < 9223372036854775808 := by omega
    rw [← hBB] at cB
    rw [← hC] at cX
    have z1 : (F a).size ≤ 100016 := by rw [hf1, size_of, List.length_append, fillL_len]; simp; omega
    have z2 : (F C).size ≤ 100016 := by rw [hf2, size_of, List.length_append, fillL_len]; simp; omega
    have z3 : (E a.size).size = 8 := by rw [hs1, size_of, sizeL_len]
    have z4 : (E p.size).size = 8 := by rw [hs2, size_of, sizeL_len]
    have k1 : ¬ 9223372036854775807 < (F a).size + (F C).size := by omega
    have k2 : ¬ 9223372036854775807 < ((F a) ++ (F C)).size + (E a.size).size := by rw [ByteArray.size_append]; omega
    have k3 : ¬ 9223372036854775807 < ((F a) ++ (F C) ++ (E a.size)).size + (E p.size).size := by rw [ByteArray.size_append, ByteArray.size_append]; omega
    obtain ⟨J, hJ⟩ : ∃ J, J = (F a) ++ (F C) ++ (E a.size) ++ (E p.size) := ⟨_, rfl⟩
    have hJd : J.data.toList = summed a.data.toList C.data.toList := by
      rw [hJ]
      simp [ByteArray.data_append, hf1, hf2, hs1, hs2, summed, hCs, List.append_assoc]
    have hJs : J.size ≤ 1000000 := by rw [hJ, ByteArray.size_append, ByteArray.size_append, ByteArray.size_append]; omega
    have cT := fun w => ptag_any h32 J hh (by omega) w
    rw [hJd, hhd] at cT
    obtain ⟨T, hT⟩ : ∃ T : ByteArray, T = ⟨(tagL ((blk k.data.toList n.data.toList 0).take 32) (summed a.data.toList C.data.toList)).toArray⟩ := ⟨_, rfl⟩
    rw [← hT] at cT
    have hTs : T.size = 16 := by rw [hT, size_of, tagL_len]
    have hfin : (⟨(sealOf k.data.toList n.data.toList a.data.toList p.data.toList).toArray⟩ : ByteArray) = C ++ T := by
      rw [hT, hCd, hC, app_of, sealOf, tagOf]
    rw [hfin] at cS
    have k4 : ¬ 9223372036854775807 < C.size + T.size := by omega
    have lB : ((B.size : Int) != 64) = false := by simp [hBs]
    have lT : (T.size : Int) = 16 := by omega
    have lB2 : (B.size : Int) = 64 := by omega
    have lC : (C.size : Int) = p.size := by omega
    have l32 : (32 : Int) ≤ B.size := by omega
    have eh := hh32.symm
    have eJ := hJ.symm
    have HF := Lib.hid hfin
    have HL := Lib.hid (And.intro ha (And.intro hCle (And.intro hae hpe)))
    clear hk hks hn hns hB hkl hnl hBB hC hCd hBd hBs hh32 hh hhd hf1 hf2 hs1 hs2 z1 z2 z3 z4 hJ hJd hJs hT hTs hfin hbig ha hp hF hE hCle hae hpe
    have mk1 := hkey
    go_enter Tryd.func4, Tryd.ntmps4
    go_wp2_with (first
      | (go_at_call 13; clear mk1; refine (c1 _).mono ?_; clear c1; rintro e w1 ⟨rfl, g1⟩)
      | (go_at_call 13; refine (c2 _).mono ?_; clear c2; rintro e w2 ⟨rfl, g2⟩; have G2 := g1.trans g2)
      | (go_at_call 10; refine (cS _ (ht.keep G2 (by simp))).mono ?_; clear cS; rintro e w3 ⟨rfl, g3⟩; have G3 := G2.trans g3)
      | (go_at_call 14; refine (cX _ (ht.keep G3 (by simp))).mono ?_; clear cX; rintro e w4 ⟨rfl, g4⟩; have G4 := G3.trans g4)
      | (go_at_call 15; refine (cB _ (ht.keep G4 (by simp))).mono ?_; clear cB; rintro e w5 ⟨rfl, g5⟩; have G5 := G4.trans g5)
      | (go_at_call 12; refine (num6_any _ _).mono ?_; rintro e w6 ⟨rfl, rfl⟩)
      | fail)
    obtain ⟨G, hG⟩ : ∃ G : World → Prop, G = fun w' => Fr [] w5 w' := ⟨_, rfl⟩
    have gW : ∀ w', G w' ↔ Fr [] w5 w' := fun w' => by rw [hG]
    clear hG
    have g1' : ∀ (x : Gw G) w', Fr [] x.w w' → G w' := fun x w' f => (gW _).2 (((gW _).1 x.ok).trans f)
    have gz : G w5.drew := (gW _).2 (Fr.drew _ _)
    have ne : Nonempty (Gw G) := ⟨⟨_, gz⟩⟩
    refine wp_region_gw G (by kernel_rfl) (by kernel_rfl) gz ?_
    repeat (go_big_quiet_step (first
      | (go_at_call 17; exact gw_call (cF _ _ (by first | exact HL.out.1 | exact HL.out.2.1)) (g1' _))
      | (go_at_call 18; exact gw_call (cE _ _ (by first | exact HL.out.2.2.1 | exact HL.out.2.2.2)) (g1' _))
      | (go_at_call 16; exact gw_call (cT _) (g1' _))))
    refine wpQuiet_nil ?_
    rintro _ ⟨x, rfl⟩
    have fx := (gW _).1 x.ok
    clear cF cE cT
    go_wp2_with (first
      | (go_at_call 12; refine (num6_any _ _).mono ?_; rintro e w6 ⟨rfl, rfl⟩)
      | fail)
    go_ret
    exact ⟨rfl, G5.trans fx⟩
end Go.Proofs.YtichgiecohhmgaaDoor
