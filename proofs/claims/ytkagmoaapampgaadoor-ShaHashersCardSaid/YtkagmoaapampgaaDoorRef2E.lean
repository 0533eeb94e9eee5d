/- The document's sum: the padding, the telling, the joining, the sum. -/
import Derived.Test.YtkagmoaapampgaaDoorRef2C
import Derived.Lib.AppendStr
namespace Go.Proofs.YtkagmoaapampgaaDoor
open Go.RowKit Go.Lib Go.Joins Base
set_option linter.unusedVariables false
set_option linter.unusedSimpArgs false

theorem str_app2 (a b : List UInt8) : (⟨a.toArray⟩ : ByteArray) ++ ⟨b.toArray⟩ = ⟨(a ++ b).toArray⟩ := by
  apply ByteArray.ext
  rw [ByteArray.data_append]
  simp
theorem quoI (x k : Nat) (hk : k ≠ 0) (hx : x < 9223372036854775808) (t : TypeId) : binOp .quo t (.int .i64 (x : Int)) (.int .i64 (k : Int)) = pure (.int .i64 ((x / k : Nat) : Int)) := by
  have e : (x : Int).tdiv (k : Int) = ((x / k : Nat) : Int) := by rw [Int.tdiv_eq_ediv_of_nonneg (by omega)]; simp
  have h0 : (k : Int) ≠ 0 := by omega
  have hle : x / k ≤ x := Nat.div_le_self _ _
  simp only [binOp, Op.intDiv]
  rw [if_neg (by simp), e, wrapI_nat _ (by omega), if_neg h0]
theorem remI (x k : Nat) (hk : k ≠ 0) (t : TypeId) : binOp .rem t (.int .i64 (x : Int)) (.int .i64 (k : Int)) = pure (.int .i64 ((x % k : Nat) : Int)) := by
  have e : (x : Int).tmod (k : Int) = ((x % k : Nat) : Int) := by rw [Int.tmod_eq_emod_of_nonneg (by omega)]; simp
  have h0 : (k : Int) ≠ 0 := by omega
  simp only [binOp, Op.intDiv]
  rw [if_neg (by simp), e, if_neg h0]
theorem byteI (x : Nat) : IntKind.u8.wrap ((x % 256 : Nat) : Int) = bt (UInt8.ofNat x) := by
  rw [wrap8_nat _ (by omega)]
  unfold bt; simp

set_option maxRecDepth 100000 in
set_option maxHeartbeats 1000000 in
theorem rtail_any (n : Nat) (hn : n ≤ 576460752303423488) (w : World) :
    Calls Tryd.prog 29 #[.int .i64 n] w fun e w' => e = .returned (.string ⟨(padL n).toArray⟩) ∧ Fr [] w w' := by
  have hi5 : (Tryd.prog.info? 5).map (fun i => (i.zero, i.size, i.bytes)) = some (some (.int .u8 0), 1, 1) := by kernel_rfl
  obtain ⟨iI, hiI, hz0, hz1, hz2⟩ := info_parts hi5
  have o0 : (w.alloc (.cells #[Value.int .u8 128] 5)).ownsRow w.heap.size 5 1 (.slice (some ⟨w.heap.size, 0, none⟩) 1 1) 1 (byteCells (128 :: zerosB 0)) :=
    ⟨rfl, .inr ⟨w.heap.size, 1, #[Value.int .u8 128], rfl, by omega, heap_alloc_new _ _, by omega, by simp [maxLen], rfl, by rfl⟩⟩
  go_enter Tryd.func29, Tryd.ntmps29
  go_wp2_with fail
  go_loopw [3] (fun v4 wr => ∃ z : Nat, z ≤ zerosN n ∧ wr.ownsRow w.heap.size 5 1 v4 (1 + z) (byteCells (128 :: zerosB z)) ∧ Below w.heap.size w wr) (fun v _ => 100 - sliceLen v)
  case atStart => exact ⟨0, by omega, o0, (Fr.alloc [] _ _).below⟩
  case round =>
    clear o0
    obtain ⟨z, hi, h0, hF⟩ := hrel
    have hzN : zerosN n < 64 := by unfold zerosN; omega
    rcases ownsRow_forms h0 with ⟨rfl, h1⟩ | ⟨g, cap, rfl⟩
    · omega
    have w1' : IntKind.i64.wrap ((n : Int) + (1 + (z : Int))) = ((n + 1 + z : Nat) : Int) := by rw [IntWalk.i64_in _ (by omega)]; omega
    have w2' : ((n + 1 + z : Nat) : Int).tmod 64 = ((n + 1 + z) % 64 : Nat) := by rw [Int.tmod_eq_emod_of_nonneg (by omega)]; omega
    have hsz := hF.size
    by_cases hl : (n + 1 + z) % 64 = 56
    · have hz56 : z = zerosN n := by unfold zerosN at *; omega
      have l1 : (((n + 1 + z) % 64 : Nat) : Int) = 56 := by omega
      have hpad : 128 :: zerosB z ++ bigL (8 * n) 8 = padL n := by rw [hz56]; rfl
      have w3 : IntKind.i64.wrap (8 * (n : Int)) = ((8 * n : Nat) : Int) := by rw [IntWalk.i64_in _ (by omega)]; omega
      have cE := fun w => reight_any (8 * n) (by omega) w
      have hcv : ∀ w', w'.ownsRow w.heap.size 5 1 (.slice (some ⟨g, 0, none⟩) (1 + z) cap) (1 + z) (byteCells (128 :: zerosB z)) → (convert 28 9 (.slice (some ⟨g, 0, none⟩) (1 + z) cap)).run Tryd.prog w' = .ok (.string ⟨(128 :: zerosB z).toArray⟩) w' := fun w' h => run_strOwn Tryd.underlying28 Tryd.underlying5 Tryd.underlying9 h
      have k1 : ¬ 9223372036854775807 < (⟨(128 :: zerosB z).toArray⟩ : ByteArray).size + (⟨(bigL (8 * n) 8).toArray⟩ : ByteArray).size := by
        show ¬ 9223372036854775807 < (128 :: zerosB z).toArray.size + (bigL (8 * n) 8).toArray.size
        rw [List.size_toArray, List.size_toArray, bigL_len]; simp [zerosB]; omega
      have hpad2 : (⟨(128 :: zerosB z).toArray⟩ : ByteArray) ++ ⟨(bigL (8 * n) 8).toArray⟩ = ⟨(padL n).toArray⟩ := by rw [str_app2, hpad]
      generalize (⟨(128 :: zerosB z).toArray⟩ : ByteArray) = s1 at hcv k1 hpad2
      generalize (⟨(bigL (8 * n) 8).toArray⟩ : ByteArray) = s2 at cE k1 hpad2
      have HP := Lib.hid hpad2
      generalize ((8 * n : Nat) : Int) = n8 at w3 cE
      clear hl hz56 hpad hpad2 hzN
      go_wp2_with fail
      refine wp_region_until (fun w' => w'.ownsRow w.heap.size 5 1 (.slice (some ⟨g, 0, none⟩) (1 + z) cap) (1 + z) (byteCells (128 :: zerosB z))) (fun _ => True) 1000 (by rfl) ?_
      have hT : True := trivial
      have s0 := World.ownsRow.drew h0
      refine until_s0 0 (v := ?_) rfl (by kernel_rfl) (fun _ _ _ h => h) (Or.inl ⟨by rfl, ?_⟩) (by assumption) (fun h => by first | assumption | exact absurd (h : true = false) (by decide)) ?_
      rotate_left
      · intro w hSw; (try dsimp only at hSw); (try go_simp); (try with_reducible rfl)
      try simp only [Act.put, List.setIfInBounds_toArray, List.set_cons_zero, List.set_cons_succ]
      refine until_s0 1 (v := ?_) rfl (by kernel_rfl) (fun _ _ _ h => h) (Or.inl ⟨by rfl, ?_⟩) (by assumption) (fun h => by first | assumption | exact absurd (h : true = false) (by decide)) ?_
      rotate_left
      · intro w hSw; (try dsimp only at hSw); (try go_simp); (try with_reducible rfl)
      try simp only [Act.put, List.setIfInBounds_toArray, List.set_cons_zero, List.set_cons_succ]
      refine until_s0 2 (v := ?_) rfl (by kernel_rfl) (fun _ _ _ h => h) (Or.inl ⟨by rfl, ?_⟩) (by assumption) (fun h => by first | assumption | exact absurd (h : true = false) (by decide)) ?_
      rotate_left
      · intro w hSw; (try dsimp only at hSw); (try go_simp); (try with_reducible rfl)
      try simp only [Act.put, List.setIfInBounds_toArray, List.set_cons_zero, List.set_cons_succ]
      refine until_s0 3 (v := ?_) rfl (by kernel_rfl) (fun _ _ _ h => h) (Or.inl ⟨by rfl, ?_⟩) (by assumption) (fun h => by first | assumption | exact absurd (h : true = false) (by decide)) ?_
      rotate_left
      · intro w hSw; (try dsimp only at hSw); (try go_simp); (try with_reducible rfl)
      try simp only [Act.put, List.setIfInBounds_toArray, List.set_cons_zero, List.set_cons_succ]
      refine until_sole 4 rfl (by kernel_rfl) (by rfl) ?_
      intro K' hK
      go_simp
      go_at_call 45
      refine (cE _).mono ?_
      rintro _ w3 ⟨rfl, f3⟩
      go_wp2_with fail
      have s3 := own_fr s0 f3 (by simp)
      refine hK _ _ s3 (fun _ => trivial) ?_
      clear hK s0
      refine until_s0 5 (v := ?_) rfl (by kernel_rfl) (fun _ _ _ h => h) (Or.inl ⟨by rfl, ?_⟩) (by assumption) (fun h => by first | assumption | exact absurd (h : true = false) (by decide)) ?_
      rotate_left
      · intro w hSw; (try dsimp only at hSw); (try go_simp); (try with_reducible rfl)
      try simp only [Act.put, List.setIfInBounds_toArray, List.set_cons_zero, List.set_cons_succ]
      refine until_s0 6 (v := ?_) rfl (by kernel_rfl) (fun _ _ _ h => h) (Or.inl ⟨by rfl, ?_⟩) (by assumption) (fun h => by first | assumption | exact absurd (h : true = false) (by decide)) ?_
      rotate_left
      · intro w hSw; (try dsimp only at hSw); (try go_simp); (try with_reducible rfl)
      try simp only [Act.put, List.setIfInBounds_toArray, List.set_cons_zero, List.set_cons_succ]
      refine until_done (by kernel_rfl) ?_ _
      go_wp2_with fail
      go_ret
      refine ⟨?_, Fr.ofBelow (hF.trans (((Fr.drew [] wr).trans f3).below.mono hsz))⟩
      rw [← HP.out]; rfl
    · have l1 : ¬ (((n + 1 + z) % 64 : Nat) : Int) = 56 := by omega
      have hzl : z < zerosN n := by unfold zerosN at *; omega
      generalize (((n + 1 + z) % 64 : Nat) : Int) = q at w2' l1
      have A2 := At.alloc_new wr 5 #[Value.int .u8 0]
      go_wp2_with (first
        | (at_builtin; refine wpList_append_own _ rfl _ _ _ rfl w.heap.size 5 iI (.int .u8 0) 1 1 Tryd.underlying28 hiI hz0 hz1 hz2 rfl (by decide) _ (1 + z) _ rfl (World.ownsRow.alloc h0 _) ⟨wr.heap.size, 0, none⟩ 1 1 (byteCells [0]) rfl rfl (by intro j u hj; rw [addr_add', Nat.zero_add]; exact (A2.cell j).trans hj) (byteCells_one _) (by simp [maxLen]; omega) (by omega) (by simp; omega) ?_; intro v2 w2 o2 gr2 _)
        | fail)
      refine ⟨⟨z + 1, by omega, ?_, ?_⟩, ?_⟩
      · rw [zerosB_succ, show 1 + (z + 1) = 1 + z + 1 by omega]
        simpa [byteCells] using o2
      · refine (hF.alloc (by omega) _).grown gr2 (by simp; omega) ?_
        intro x hx
        exact (h0.lt x hx).1
      · rcases ownsRow_forms o2 with ⟨rfl, h1⟩ | ⟨g, cap, rfl⟩
        · omega
        · simp only [sliceLen]; omega

set_option maxRecDepth 100000 in
set_option maxHeartbeats 1000000 in
theorem rtold_any (H : List UInt32) (hH : H.length = 8) (w : World) :
    Calls Tryd.prog 30 #[.agg (icells H).toArray] w fun e w' => e = .returned (.string ⟨(toldL H).toArray⟩) ∧ Fr [] w w' := by
  have hi5 : (Tryd.prog.info? 5).map (fun i => (i.zero, i.size, i.bytes)) = some (some (.int .u8 0), 1, 1) := by kernel_rfl
  obtain ⟨iI, hiI, hz0, hz1, hz2⟩ := info_parts hi5
  have A0 := At.alloc_new w 58 (icells H).toArray
  rw [List.toList_toArray] at A0
  go_enter Tryd.func30, Tryd.ntmps30
  go_wp2_with fail
  go_loopw [3, 4] (fun v3 v4 wr => ∃ i : Nat, i ≤ 8 ∧ v4 = .int .i64 i ∧ wr.ownsRow (w.heap.size + 1) 5 1 v3 (4 * i) (byteCells (toldL (H.take i))) ∧ Below (w.heap.size + 1) (w.alloc (.cells (icells H).toArray 58)) wr) (fun _ v _ => 8 - (intOf v).toNat)
  case atStart => exact ⟨0, by omega, rfl, World.ownsRow_nil _ _ _ _, Below.refl _ _⟩
  case round =>
    obtain ⟨i, hi, rfl, h0, hF⟩ := hrel
    have hsz := hF.size
    rw [World.size_alloc] at hsz
    by_cases hl : i < 8
    · have l1 : (i : Int) < 8 := by omega
      have A1 : At wr w.heap.size 58 (icells H) := by
        have := hF.block w.heap.size (by omega)
        unfold At; rw [this]; exact A0.out
      have ci := A1.cell i
      rw [icells_get _ _ (by omega)] at ci
      have ht : toldL (H.take (i + 1)) = toldL (H.take i) ++ bytesW (H.getD i 0) := by
        unfold toldL
        rw [List.take_add_one, List.getElem?_eq_getElem (by omega), List.flatMap_append]
        simp [List.getD, show i < H.length by omega]
      generalize H.getD i 0 = x at ci ht
      have hb : bytesW x = [UInt8.ofNat (x.toNat / 16777216), UInt8.ofNat (x.toNat / 65536), UInt8.ofNat (x.toNat / 256), UInt8.ofNat x.toNat] := by
        unfold bytesW; simp [bigL]
      rw [hb] at ht
      have HT := Lib.hid ht
      have hx : wd x = ((x.toNat : Nat) : Int) := rfl
      have hxl := x.toNat_lt
      rw [hx] at ci
      generalize x.toNat = X at ci HT hxl
      have d1 : ∀ t, binOp .quo t (.int .i64 (X : Int)) (.int .i64 16777216) = pure (.int .i64 ((X / 16777216 : Nat) : Int)) := fun t => quoI X 16777216 (by omega) (by omega) t
      have d2 : ∀ t, binOp .quo t (.int .i64 (X : Int)) (.int .i64 65536) = pure (.int .i64 ((X / 65536 : Nat) : Int)) := fun t => quoI X 65536 (by omega) (by omega) t
      have d3 : ∀ t, binOp .quo t (.int .i64 (X : Int)) (.int .i64 256) = pure (.int .i64 ((X / 256 : Nat) : Int)) := fun t => quoI X 256 (by omega) (by omega) t
      have e1 : ∀ t, binOp .rem t (.int .i64 ((X / 16777216 : Nat) : Int)) (.int .i64 256) = pure (.int .i64 ((X / 16777216 % 256 : Nat) : Int)) := fun t => remI (X / 16777216) 256 (by omega) t
      have e2 : ∀ t, binOp .rem t (.int .i64 ((X / 65536 : Nat) : Int)) (.int .i64 256) = pure (.int .i64 ((X / 65536 % 256 : Nat) : Int)) := fun t => remI (X / 65536) 256 (by omega) t
      have e3 : ∀ t, binOp .rem t (.int .i64 ((X / 256 : Nat) : Int)) (.int .i64 256) = pure (.int .i64 ((X / 256 % 256 : Nat) : Int)) := fun t => remI (X / 256) 256 (by omega) t
      have e4 : ∀ t, binOp .rem t (.int .i64 (X : Int)) (.int .i64 256) = pure (.int .i64 ((X % 256 : Nat) : Int)) := fun t => remI X 256 (by omega) t
      have b1 := byteI (X / 16777216)
      have b2 := byteI (X / 65536)
      have b3 := byteI (X / 256)
      have b4 := byteI X
      generalize ((X / 16777216 % 256 : Nat) : Int) = y1 at e1 b1
      generalize ((X / 65536 % 256 : Nat) : Int) = y2 at e2 b2
      generalize ((X / 256 % 256 : Nat) : Int) = y3 at e3 b3
      generalize ((X % 256 : Nat) : Int) = y4 at e4 b4
      generalize ((X / 16777216 : Nat) : Int) = z1 at d1 e1
      generalize ((X / 65536 : Nat) : Int) = z2 at d2 e2
      generalize ((X / 256 : Nat) : Int) = z3 at d3 e3
      generalize (X : Int) = z4 at d1 d2 d3 e4 ci
      generalize hu1 : UInt8.ofNat (X / 16777216) = u1 at b1 HT
      generalize hu2 : UInt8.ofNat (X / 65536) = u2 at b2 HT
      generalize hu3 : UInt8.ofNat (X / 256) = u3 at b3 HT
      generalize hu4 : UInt8.ofNat X = u4 at b4 HT
      have A2 := At.alloc_new wr 5 #[Value.int .u8 (bt u1), Value.int .u8 (bt u2), Value.int .u8 (bt u3), Value.int .u8 (bt u4)]
      clear ht hx hxl hu1 hu2 hu3 hu4 hb
      go_wp2_with (first
        | (at_builtin; refine wpList_append_own _ rfl _ _ _ rfl (w.heap.size + 1) 5 iI (.int .u8 0) 1 1 Tryd.underlying28 hiI hz0 hz1 hz2 rfl (by decide) _ (4 * i) _ rfl (World.ownsRow.alloc h0 _) ⟨wr.heap.size, 0, none⟩ 4 4 (byteCells [u1, u2, u3, u4]) rfl rfl (by intro j u hj; rw [addr_add', Nat.zero_add]; exact (A2.cell j).trans hj) (byteCells_one _) (by simp [maxLen]; omega) (by omega) (by simp; omega) ?_; intro v2 w2 o2 gr2 _)
        | fail)
      refine ⟨⟨i + 1, by omega, by simp, ?_, ?_⟩, by simp only [intOf]; omega⟩
      · rw [HT.out, show 4 * (i + 1) = 4 * i + 4 by omega]
        simpa [byteCells] using o2
      · refine (hF.alloc (by omega) _).grown gr2 (by simp; omega) ?_
        intro x hx
        exact (h0.lt x hx).1
    · obtain rfl : i = 8 := by omega
      rw [List.take_of_length_le (by omega)] at h0
      have hcv := run_strOwn Tryd.underlying28 Tryd.underlying5 Tryd.underlying9 h0
      go_wp2_with fail
      go_ret
      exact ⟨rfl, Fr.ofBelow ((Fr.alloc [] w _).below.trans (hF.mono (by omega)))⟩

set_option maxRecDepth 100000 in
set_option maxHeartbeats 1000000 in
theorem rsum_any (s : ByteArray) (hs : s.size ≤ 140737488355328) (w : World) (hP : Powers w) (hQ : RefRoots w) :
    Calls Tryd.prog 12 #[.string s] w fun e w' => e = .returned (.string ⟨(shaL s.data.toList).toArray⟩) ∧ Fr [] w w' := by
  have hl : s.data.toList.length = s.size := by simp
  have hz : (padL s.size).length ≤ 73 := by simp [padL, bigL_len, zerosB, zerosN]; omega
  obtain ⟨t, ht⟩ : ∃ t : ByteArray, t = ⟨(padL s.size).toArray⟩ := ⟨_, rfl⟩
  have htd : t.data.toList = padL s.size := by rw [ht]
  have htl : t.size ≤ 73 := by
    have : t.data.toList.length = t.size := by simp
    rw [htd] at this; omega
  have hstd : (s ++ t).data.toList = s.data.toList ++ padL s.size := by rw [ByteArray.data_append]; simp [htd]
  have cT := fun w => rtail_any s.size (by omega) w
  rw [← ht] at cT
  have hstl : (s ++ t).size = s.size + t.size := ByteArray.size_append
  have cB : ∀ w, Powers w → RefRoots w → Calls Tryd.prog 27 #[.agg (icells firstL).toArray, .string (s ++ t)] w fun e w' => e = .returned (.agg (icells (wordsOf firstL (s.data.toList ++ padL s.size))).toArray) ∧ Fr [] w w' := fun w h1 h2 => by
    have := rblocks_any firstL rfl (s ++ t) (by omega) w h1 h2
    rw [hstd] at this
    exact this
  have hwl := wordsOf_len firstL (s.data.toList ++ padL s.size) rfl
  have cD := fun w => rtold_any (wordsOf firstL (s.data.toList ++ padL s.size)) hwl w
  have hans : toldL (wordsOf firstL (s.data.toList ++ padL s.size)) = shaL s.data.toList := by unfold shaL sumOf; rw [hl]
  rw [hans] at cD
  have hsz : (Tryd.prog.info? 58).map (·.size) = some (icells (wordsOf firstL (s.data.toList ++ padL s.size))).toArray.size := by rw [List.size_toArray, icells_len, hwl]; kernel_rfl
  have hold : [Value.int .i64 0, Value.int .i64 0, Value.int .i64 0, Value.int .i64 0, Value.int .i64 0, Value.int .i64 0, Value.int .i64 0, Value.int .i64 0].toArray.size = (icells (wordsOf firstL (s.data.toList ++ padL s.size))).toArray.size := by rw [List.size_toArray, List.size_toArray, icells_len, hwl]; rfl
  have hX1 := icells_one (wordsOf firstL (s.data.toList ++ padL s.size))
  generalize icells (wordsOf firstL (s.data.toList ++ padL s.size)) = X at cB cD hsz hold hX1
  have k1 : ¬ 9223372036854775807 < s.size + t.size := by omega
  have hF := Fr.refl [] w
  clear hl hz ht htd htl hstd hstl hwl hans
  go_enter Tryd.func12, Tryd.ntmps12
  go_wp2_with (first
    | (go_at_call 28; refine (rfirst_any _).mono ?_; rintro _ w1 ⟨rfl, f1⟩; have hF := hF.trans f1)
    | (go_at_call 29; refine (cT _).mono ?_; rintro _ w2 ⟨rfl, f2⟩; have hF := hF.trans f2)
    | (go_at_call 27; refine (cB _ (hP.keep hF) (hQ.keep hF)).mono ?_; rintro _ w3 ⟨rfl, f3⟩; have hF := hF.trans f3; have A3 := (At.alloc_new w3 58 #[Value.int .i64 0, Value.int .i64 0, Value.int .i64 0, Value.int .i64 0, Value.int .i64 0, Value.int .i64 0, Value.int .i64 0, Value.int .i64 0]); have A3r := A3.setRow X.toArray; have A3s := (show At _ _ _ X from by rw [List.toList_toArray] at A3r; exact A3r))
    | refine wpList_store_row rfl _ _ _ rfl _ _ rfl rfl _ _ A3.out hsz hold hX1 ?_
    | refine wpList_load_row rfl _ _ rfl _ rfl _ _ _ _ A3s.out Tryd.underlying58 rfl hsz ?_
    | (go_at_call 30; refine (cD _).mono ?_; rintro _ w4 ⟨rfl, f4⟩)
    | fail)
  go_ret
  exact ⟨rfl, (hF.new (S := [w3.heap.size]) ((Fr.alloc _ _ _).trans (Fr.setRow _ _ _ _ (.inl (by simp)))) (by simp; exact hF.size)).trans f4⟩
end Go.Proofs.YtkagmoaapampgaaDoor
