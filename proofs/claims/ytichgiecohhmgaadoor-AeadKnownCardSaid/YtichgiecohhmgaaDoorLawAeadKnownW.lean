/- The law AeadKnown walked. -/
import Derived.Test.YtichgiecohhmgaaDoorAeadK
namespace Go.Proofs.YtichgiecohhmgaaDoor
open Go.RowKit Go.Lib Go.Joins Base
set_option linter.unusedVariables false
set_option linter.unusedSimpArgs false

def risenB (c : UInt8) (n : Nat) : List UInt8 := (List.range n).map fun i => c + UInt8.ofNat i
theorem risenB_len (c : UInt8) (n : Nat) : (risenB c n).length = n := by simp [risenB]
theorem risenB_take (c : UInt8) (n i : Nat) (h : i < n) : (risenB c n).take (i + 1) = (risenB c n).take i ++ [c + UInt8.ofNat i] := by
  rw [List.take_add_one]
  simp [risenB, h]
theorem add_bt (t : TypeId) (x y : UInt8) : binOp .add t (.int .u8 (bt x)) (.int .u8 (bt y)) = pure (.int .u8 (bt (x + y))) := by
  have e : IntKind.u8.wrap (bt x + bt y) = bt (x + y) := by
    unfold bt
    rw [← Int.natCast_add, UInt8.toNat_add]
    simp [IntKind.wrap, IntKind.bits, IntKind.signed]
  simp only [binOp]
  rw [← e]
  simp [Op.intArith]
set_option maxRecDepth 100000 in
set_option maxHeartbeats 1000000 in
theorem rising6_any (c : UInt8) (n : Nat) (hn : n ≤ 200) (w : World) :
    Calls Tryd.prog 23 #[.int .u8 (bt c), .int .i64 n] w fun e w' => e = .returned (.string ⟨(risenB c n).toArray⟩) ∧ Fr [] w w' := by
  have hi5 : (Tryd.prog.info? 5).map (fun i => (i.zero, i.size, i.bytes)) = some (some (.int .u8 0), 1, 1) := by kernel_rfl
  obtain ⟨iI, hiI, hz0, hz1, hz2⟩ := info_parts hi5
  go_enter Tryd.func23, Tryd.ntmps23
  go_wp2_with fail
  go_loopw [5, 6] (fun v5 v6 wr => ∃ i : Nat, i ≤ n ∧ v6 = .int .i64 i ∧ wr.ownsRow w.heap.size 5 1 v5 i (byteCells ((risenB c n).take i)) ∧ Below w.heap.size w wr) (fun _ v _ => n - (RowKit.intOf v).toNat)
  case atStart => exact ⟨0, by omega, rfl, World.ownsRow_nil _ _ _ _, Below.refl _ _⟩
  case round =>
    obtain ⟨i, hi, rfl, h0, hF⟩ := hrel
    have hsz := hF.size
    by_cases hl : i < n
    · have l1 : (i : Int) < n := by omega
      have w2 : IntKind.i64.wrap ((i : Int) + 1) = ((i + 1 : Nat) : Int) := by rw [IntWalk.i64_in _ (by omega)]; omega
      have b4 := byte_of i
      have ht := risenB_take c n i hl
      generalize UInt8.ofNat i = x at b4 ht
      have ad := fun t => add_bt t c x
      obtain ⟨u, hu⟩ : ∃ u, u = c + x := ⟨_, rfl⟩
      rw [← hu] at ad ht
      have HT := Lib.hid ht
      have A2 := At.alloc_new wr 5 #[Value.int .u8 (bt u)]
      clear ht hu
      go_wp2_with (first
        | (at_builtin; refine wpList_append_own _ rfl _ _ _ rfl w.heap.size 5 iI (.int .u8 0) 1 1 Tryd.underlying35 hiI hz0 hz1 hz2 rfl (by decide) _ i _ rfl (World.ownsRow.alloc h0 _) ⟨wr.heap.size, 0, none⟩ 1 1 (byteCells [u]) rfl rfl (by intro j u' hj; rw [addr_add', Nat.zero_add]; exact (A2.cell j).trans hj) (byteCells_one _) (by simp [maxLen]; omega) (by omega) (by simp; omega) ?_; intro v2 w2 o2 gr2 _)
        | fail)
      refine ⟨⟨i + 1, by omega, by simp, ?_, ?_⟩, by simp only [RowKit.intOf]; omega⟩
      · rw [HT.out]
        simpa [byteCells] using o2
      · refine (hF.alloc (by omega) _).grown gr2 (by simp; omega) ?_
        intro x hx
        exact (h0.lt x hx).1
    · obtain rfl : i = n := by omega
      have l1 : ¬ (i : Int) < i := by omega
      rw [List.take_of_length_le (by rw [risenB_len]; omega)] at h0
      have hcv := run_strOwn (P := Tryd.prog) Tryd.underlying35 Tryd.underlying5 Tryd.underlying9 h0
      go_wp2_with fail
      go_ret
      exact ⟨rfl, Fr.ofBelow hF⟩
theorem risen_key : risenB 128 32 = kKey := by decide
theorem risen_n2 : risenB 64 24 = kN2 := by decide
theorem risen_aad : [80, 81, 82, 83] ++ risenB 192 8 = kAad := by decide
theorem str_is {a : ByteArray} {l : List UInt8} (h : a.data.toList = l) : a = ⟨l.toArray⟩ := by
  apply ByteArray.ext
  rw [← h]
theorem kseal_a (K N A P : ByteArray) (hK : K.data.toList = kKey) (hN : N.data.toList = kN1) (hA : A.data.toList = kAad) (hP : P.data.toList = kPlain) (w : World) (ht : Rounds w) :
    Calls Tryd.prog 10 #[.string K, .string N, .string A, .string P] w fun e w' => e = .returned (.tuple #[.string ⟨(kCa ++ kTa).toArray⟩, .int .i64 0]) ∧ Fr [] w w' := by
  have e1 := str_is hK
  have e2 := str_is hN
  have e3 := str_is hA
  have e4 := str_is hP
  have k1 : K.size = 32 := by rw [e1]; rfl
  have k2 : N.size = 12 := by rw [e2]; rfl
  have := seal_any K N A P K N (fun w _ => begin_short K N k1 k2 w) k1 k2 (by rw [e3]; decide) (by rw [e4]; decide) w ht
  rw [hK, hN, hA, hP, seal_a] at this
  exact this
theorem kseal_b (K N A P : ByteArray) (hK : K.data.toList = kKey) (hN : N.data.toList = kN2) (hA : A.data.toList = kAad) (hP : P.data.toList = kPlain) :
    (∀ (w : World), Rounds w → Calls Tryd.prog 10 #[.string K, .string N, .string A, .string P] w fun e w' => e = .returned (.tuple #[.string ⟨(kCb ++ kTb).toArray⟩, .int .i64 0]) ∧ Fr [] w w') ∧
    (∀ (w : World), Rounds w → Calls Tryd.prog 19 #[.string K, .string N, .string A, .string ⟨(kCb ++ kTb).toArray⟩] w fun e w' => e = .returned (.tuple #[.string P, .int .i64 0]) ∧ Fr [] w w') := by
  have e1 := str_is hK
  have e2 := str_is hN
  have e3 := str_is hA
  have e4 := str_is hP
  have k1 : K.size = 32 := by rw [e1]; rfl
  have k2 : N.size = 24 := by rw [e2]; rfl
  have hB : Begins K N (sKey K N) (sNonce N) := fun w ht => begin_long K N k1 k2 w ht
  have z1 := sKey_size K N k1 k2
  have z2 := sNonce_size N k2
  have d1 : (sKey K N).data.toList = kK2 := by
    have : (N.extract 0 16).data.toList = kN2.take 16 := by
      rw [ByteArray.data_extract, Array.toList_extract, List.extract_eq_take_drop, hN]; rfl
    rw [sKey, this, hK, hch_k]
  have d2 : (sNonce N).data.toList = kM2 := by
    have : (N.extract 16 N.size).data.toList = kN2.drop 16 := by
      rw [ByteArray.data_extract, Array.toList_extract, List.extract_eq_take_drop, hN, k2]; rfl
    rw [sNonce, ByteArray.data_append, Array.toList_append, this]; rfl
  have a1 : A.size ≤ 1048576 := by rw [e3]; decide
  have p1 : P.size ≤ 1048576 := by rw [e4]; decide
  have hs : sealOf (sKey K N).data.toList (sNonce N).data.toList A.data.toList P.data.toList = kCb ++ kTb := by rw [d1, d2, hA, hP, seal_b]
  refine ⟨fun w ht => ?_, fun w ht => ?_⟩
  · have := seal_any K N A P _ _ hB z1 z2 a1 p1 w ht
    rw [hs] at this
    exact this
  · exact open_sealed K N A P _ _ ⟨(kCb ++ kTb).toArray⟩ (by rw [hs]) hB z1 z2 a1 p1 w ht
theorem hex_eq {a b : ByteArray} {l : List UInt8} (h : a.data.toList = l) (h2 : b.data.toList = l) : (a.toList == b.toList) = true := by
  rw [str_is h, str_is h2]; exact beq_self_eq_true _
set_option maxRecDepth 100000 in
set_option maxHeartbeats 1000000 in
theorem known6_law (w : World) (ht : Rounds w) : Calls Tryd.prog 9 #[] w fun e w' => e = .returned (.bool true) ∧ Fr [] w w' := by
  have c1 := fun w => rising6_any 192 8 (by omega) w
  have c2 := fun w => rising6_any 128 32 (by omega) w
  have c3 := fun w => rising6_any 64 24 (by omega) w
  rw [show bt 192 = 192 from rfl, show ((8 : Nat) : Int) = 8 from rfl] at c1
  rw [show bt 128 = 128 from rfl, show ((32 : Nat) : Int) = 32 from rfl] at c2
  rw [show bt 64 = 64 from rfl, show ((24 : Nat) : Int) = 24 from rfl] at c3
  obtain ⟨K, hK⟩ : ∃ K : ByteArray, K = ⟨(risenB 128 32).toArray⟩ := ⟨_, rfl⟩
  obtain ⟨N2, hN2⟩ : ∃ K : ByteArray, K = ⟨(risenB 64 24).toArray⟩ := ⟨_, rfl⟩
  obtain ⟨A8, hA8⟩ : ∃ K : ByteArray, K = ⟨(risenB 192 8).toArray⟩ := ⟨_, rfl⟩
  rw [← hK] at c2
  rw [← hN2] at c3
  rw [← hA8] at c1
  have dK : K.data.toList = kKey := by rw [hK, ← risen_key]
  have dN : N2.data.toList = kN2 := by rw [hN2, ← risen_n2]
  have z8 : A8.size ≤ 8 := by rw [hA8, size_of, risenB_len]; exact Nat.le_refl _
  obtain ⟨A, hA⟩ : ∃ A : ByteArray, A = ⟨#[80, 81, 82, 83]⟩ ++ A8 := ⟨_, rfl⟩
  have dA : A.data.toList = kAad := by rw [hA, ByteArray.data_append, Array.toList_append, hA8, ← risen_aad]
  have eA := hA.symm
  have HD := Lib.hid (And.intro dK (And.intro dN dA))
  clear hK hN2 hA8 dK dN dA hA
  obtain ⟨S1, hS1⟩ : ∃ S : ByteArray, S = ⟨(kCa ++ kTa).toArray⟩ := ⟨_, rfl⟩
  obtain ⟨S2, hS2⟩ : ∃ S : ByteArray, S = ⟨(kCb ++ kTb).toArray⟩ := ⟨_, rfl⟩
  have s1 := fun N P hN hP => kseal_a K N A P HD.out.1 hN HD.out.2.2 hP
  have s2 := fun P hP => (kseal_b K N2 A P HD.out.1 HD.out.2.1 HD.out.2.2 hP).1
  obtain ⟨P, hP⟩ : ∃ P : ByteArray, P = ⟨kPlain.toArray⟩ := ⟨_, rfl⟩
  have s3 := (kseal_b K N2 A P HD.out.1 HD.out.2.1 HD.out.2.2 (by rw [hP])).2
  have HP := Lib.hid hP
  clear hP
  rw [← hS1] at s1
  rw [← hS2] at s2 s3
  have x1 := fun w => hex_any S1 (by rw [hS1]; decide) w
  have x2 := fun w => hex_any S2 (by rw [hS2]; decide) w
  rw [show S1.data.toList = kCa ++ kTa by rw [hS1]] at x1
  rw [show S2.data.toList = kCb ++ kTb by rw [hS2]] at x2
  clear hS1 hS2
  obtain ⟨H1, hH1⟩ : ∃ H : ByteArray, H = ⟨(hexL (kCa ++ kTa)).toArray⟩ := ⟨_, rfl⟩
  obtain ⟨H2, hH2⟩ : ∃ H : ByteArray, H = ⟨(hexL (kCb ++ kTb)).toArray⟩ := ⟨_, rfl⟩
  rw [← hH1] at x1
  rw [← hH2] at x2
  have q1 := (by rintro _ rfl; rw [hH1, ByteArray.toList_eq]; exact beq_self_eq_true _ : ∀ l, hexL (kCa ++ kTa) = l → (H1.toList == l) = true) _ hex_a
  have q2 := (by rintro _ rfl; rw [hH2, ByteArray.toList_eq]; exact beq_self_eq_true _ : ∀ l, hexL (kCb ++ kTb) = l → (H2.toList == l) = true) _ hex_b
  have Q1 := Lib.hid q1
  have Q2 := Lib.hid q2
  clear hH1 hH2 q1 q2
  go_enter Tryd.func9, Tryd.ntmps9
  have c2' := c2
  go_upto_region 4 with (first
    | (go_at_call 23; refine (c1 _).mono ?_; clear c1; rintro e w1 ⟨rfl, f1⟩)
    | (go_at_call 23; refine (c2' _).mono ?_; clear c2'; rintro e w2 ⟨rfl, f2⟩; have F2 := f1.trans f2)
    | (go_at_call 10; refine (s1 _ _ (by kernel_rfl) (by kernel_rfl) _ (ht.keep F2 (by simp))).mono ?_; clear s1; rintro e w3 ⟨rfl, f3⟩; have F3 := F2.trans f3)
    | fail)
  have c2' := c2
  have c3' := c3
  go_upto_if 36 with (first
    | (go_at_call 23; refine (c2' _).mono ?_; clear c2'; rintro e w4 ⟨rfl, f4⟩; have F4 := F3.trans f4)
    | (go_at_call 23; refine (c3' _).mono ?_; clear c3'; rintro e w5 ⟨rfl, f5⟩; have F5 := F4.trans f5)
    | (go_at_call 10; refine (s2 _ (by kernel_rfl) _ (ht.keep F5 (by simp))).mono ?_; clear s2; rintro e w6 ⟨rfl, f6⟩; have F6 := F5.trans f6)
    | (go_at_call 12; refine (num6_any 0 _).mono ?_; rintro e w7 ⟨rfl, rfl⟩)
    | (go_at_call 24; refine (x1 _).mono ?_; clear x1; rintro e w8 ⟨rfl, f8⟩; have F8 := F6.trans f8)
    | fail)
  rw [Q1.out]
  go_upto_if 39 with (first
    | (go_at_call 24; refine (x2 _).mono ?_; clear x2; rintro e w9 ⟨rfl, f9⟩; have F9 := F8.trans f9)
    | fail)
  rw [Q2.out]
  go_wp2_with (first
    | (go_at_call 23; refine (c2 _).mono ?_; clear c2; rintro e w10 ⟨rfl, f10⟩; have F10 := F9.trans f10)
    | (go_at_call 23; refine (c3 _).mono ?_; clear c3; rintro e w11 ⟨rfl, f11⟩; have F11 := F10.trans f11)
    | (go_at_call 19; refine (s3 _ (ht.keep F11 (by simp))).mono ?_; clear s3; rintro e w12 ⟨rfl, f12⟩; have F12 := F11.trans f12)
    | (go_at_call 12; refine (num6_any 0 _).mono ?_; rintro e w13 ⟨rfl, rfl⟩)
    | fail)
  have hq : (P.toList == kPlain) = true := by rw [HP.out, ByteArray.toList_eq]; exact beq_self_eq_true _
  unfold kPlain at hq
  rw [hq]
  go_ret
  exact ⟨rfl, F12⟩
end Go.Proofs.YtichgiecohhmgaaDoor
