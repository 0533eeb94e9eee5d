/- The program's Poly1305: a tag made. -/
import Derived.Test.YtichgiecohhmgaaDoorPolyC
import Derived.Test.YtichgiecohhmgaaDoorUntil
namespace Go.Proofs.YtichgiecohhmgaaDoor
open Go.RowKit Go.Lib Go.Joins Base
set_option linter.unusedVariables false
set_option linter.unusedSimpArgs false

/-- A tag in block b under a key: what was written is T. -/
def Macs (w : World) (b : Nat) (K T : List UInt8) : Prop :=
  ∃ rest, rest.length = 16 ∧ rest.take (T.length % 16) = restL T ∧ At w b 87 (mcells (accOf (rOf K) T) (rOf K) [s0Of K, s1Of K] rest (T.length % 16))
theorem at_types {w : World} {g g' : Nat} {T T' : TypeId} {cs cs' : List Value} (h : At w g T cs) (h' : At w g' T' cs') (hT : T ≠ T') : g ≠ g' := by
  rintro rfl
  have := h.out.symm.trans h'.out
  simp at this
  exact hT this.2
theorem Macs.at_ {w : World} {b : Nat} {K T : List UInt8} (h : Macs w b K T) : ∃ cs, At w b 87 cs := by
  obtain ⟨_, _, _, h⟩ := h; exact ⟨_, h⟩
theorem Macs.keep {w w' : World} {b : Nat} {K T : List UInt8} {S : List Nat} (h : Macs w b K T) (f : Fr S w w') (hb : b ∉ S) : Macs w' b K T := by
  obtain ⟨r, h1, h2, h3⟩ := h; exact ⟨r, h1, h2, f.keep h3 hb⟩
theorem rOf_len (K : List UInt8) : (rOf K).length = 5 := rfl
theorem idx4 (w : World) : ∀ i : Nat, i < 4 → (Instr.index 78 (.agg #[.int .i64 3, .int .i64 7, .int .i64 11, .int .i64 15]) (.int .i64 i)).run Tryd.prog w = .ok (.int .i64 (([3, 7, 11, 15] : List Nat).getD i 0 : Nat)) w
  | 0, _ => by kernel_rfl
  | 1, _ => by kernel_rfl
  | 2, _ => by kernel_rfl
  | 3, _ => by kernel_rfl
  | n + 4, h => by omega
theorem idx3 (w : World) : ∀ i : Nat, i < 3 → (Instr.index 79 (.agg #[.int .i64 4, .int .i64 8, .int .i64 12]) (.int .i64 i)).run Tryd.prog w = .ok (.int .i64 (([4, 8, 12] : List Nat).getD i 0 : Nat)) w
  | 0, _ => by kernel_rfl
  | 1, _ => by kernel_rfl
  | 2, _ => by kernel_rfl
  | n + 3, h => by omega
theorem pos4 : ∀ i : Nat, i < 4 → ([3, 7, 11, 15] : List Nat).getD i 0 < 16 := by decide
theorem pos3 : ∀ i : Nat, i < 3 → ([4, 8, 12] : List Nat).getD i 0 < 16 := by decide
theorem and_bt (t : TypeId) (x m : UInt8) : binOp .and t (.int .u8 (bt x)) (.int .u8 (bt m)) = pure (.int .u8 (bt (x &&& m))) := by
  have e : bits .and .u8 (bt x) (bt m) = bt (x &&& m) := by unfold bt; rw [bits8_and _ _ x.toNat_lt m.toNat_lt, UInt8.toNat_and]
  rw [← e]; simp [binOp, intBits_and]
@[go_sem high] theorem and_15 (t : TypeId) (x : UInt8) : binOp .and t (.int .u8 (bt x)) (.int .u8 15) = pure (.int .u8 (bt (x &&& 15))) := and_bt t x 15
@[go_sem high] theorem and_252 (t : TypeId) (x : UInt8) : binOp .and t (.int .u8 (bt x)) (.int .u8 252) = pure (.int .u8 (bt (x &&& 252))) := and_bt t x 252
theorem byteCells_getD (l : List UInt8) (i : Nat) (h : i < l.length) : (byteCells l)[i]? = some (.int .u8 (bt (l.getD i 0))) := by
  simp [byteCells, h, List.getD, bt]
theorem byteCells_setD (l : List UInt8) (i : Nat) (x : UInt8) : (byteCells l).set i (.int .u8 (bt x)) = byteCells (l.set i x) := by
  simp [byteCells, List.map_set, bt]
theorem mac_built5 (a b c d e : UInt64) : Tryd.prog.built 87 [(1, .agg (qcells [a, b, c, d, e]).toArray)] = some (mcells [0, 0, 0, 0, 0] [a, b, c, d, e] [0, 0] (List.replicate 16 0) 0).toArray := by kernel_rfl
theorem mac_built (R : List UInt64) (h : R.length = 5) : Tryd.prog.built 87 [(1, .agg (qcells R).toArray)] = some (mcells [0, 0, 0, 0, 0] R [0, 0] (List.replicate 16 0) 0).toArray := by
  obtain ⟨a, b, c, d, e, rfl⟩ := five_of R h
  exact mac_built5 a b c d e
theorem mc_set (z R : List UInt64) (a0 b0 x y : UInt64) (rest : List UInt8) (h : Nat) (hz : z.length = 5) (hR : R.length = 5) : ((mcells z R [a0, b0] rest h).set 10 (.int .u64 (qd x))).set 11 (.int .u64 (qd y)) = mcells z R [x, y] rest h := by
  obtain ⟨a, b, c, d, e, rfl⟩ := five_of R hR
  obtain ⟨a', b', c', d', e', rfl⟩ := five_of z hz
  rfl
theorem mc_set' (z R : List UInt64) (a0 b0 x y : UInt64) (rest : List UInt8) (h : Nat) (hz : z.length = 5) (hR : R.length = 5) : ((mcells z R [a0, b0] rest h).set 11 (.int .u64 (qd y))).set 10 (.int .u64 (qd x)) = mcells z R [x, y] rest h := by
  obtain ⟨a, b, c, d, e, rfl⟩ := five_of R hR
  obtain ⟨a', b', c', d', e', rfl⟩ := five_of z hz
  rfl
theorem mc_get10 (z R : List UInt64) (a0 b0 : UInt64) (rest : List UInt8) (h : Nat) (hz : z.length = 5) (hR : R.length = 5) : (mcells z R [a0, b0] rest h)[10]? = some (.int .u64 (qd a0)) := by
  obtain ⟨a, b, c, d, e, rfl⟩ := five_of R hR
  obtain ⟨a', b', c', d', e', rfl⟩ := five_of z hz
  rfl
theorem mc_get11 (z R : List UInt64) (a0 b0 : UInt64) (rest : List UInt8) (h : Nat) (hz : z.length = 5) (hR : R.length = 5) : (mcells z R [a0, b0] rest h)[11]? = some (.int .u64 (qd b0)) := by
  obtain ⟨a, b, c, d, e, rfl⟩ := five_of R hR
  obtain ⟨a', b', c', d', e', rfl⟩ := five_of z hz
  rfl
set_option maxRecDepth 100000 in
set_option maxHeartbeats 1000000 in
theorem pnew_key (k : ByteArray) (hk : k.size ≠ 32) (w : World) :
    Calls Tryd.prog 35 #[.string k] w fun e w' => e = .returned (.tuple #[.pointer none, .int .i64 40]) ∧ Fr [] w w' := by
  have l1 : ¬ (k.size : Int) = 32 := by omega
  go_enter Tryd.func35, Tryd.ntmps35
  go_wp2_with fail
  go_ret2
  exact ⟨rfl, Fr.refl _ _⟩
set_option maxRecDepth 100000 in
set_option maxHeartbeats 2000000 in
theorem pnew_any (k : ByteArray) (hk : k.size = 32) (w : World) :
    Calls Tryd.prog 35 #[.string k] w fun e w' => ∃ b, e = .returned (.tuple #[.pointer (some ⟨b, 0, none⟩), .int .i64 0]) ∧ w.heap.size ≤ b ∧ Macs w' b k.data.toList [] ∧ Fr [] w w' := by
  have hkl : k.data.toList.length = 32 := by rw [← hk]; simp
  obtain ⟨K, hK⟩ : ∃ K, K = k.data.toList := ⟨_, rfl⟩
  rw [← hK] at hkl ⊢
  obtain ⟨f, hf⟩ : ∃ f, f = w.heap.size := ⟨_, rfl⟩
  obtain ⟨l, hl⟩ : ∃ l, l = w.heap.size + 1 := ⟨_, rfl⟩
  obtain ⟨W, hW⟩ : ∃ W, W = (w.alloc (.cells (byteCells (zerosB 16)).toArray 77)).alloc (.cells (byteCells (zerosB 16)).toArray 77) := ⟨_, rfl⟩
  have A0 : At W f 77 (byteCells (zerosB 16)) := by
    have := (At.alloc_new w 77 (byteCells (zerosB 16)).toArray).alloc (.cells (byteCells (zerosB 16)).toArray 77)
    rw [← hW, ← hf, List.toList_toArray] at this
    exact this
  have B0 : At W l 77 (byteCells (zerosB 16)) := by
    have := At.alloc_new (w.alloc (.cells (byteCells (zerosB 16)).toArray 77)) 77 (byteCells (zerosB 16)).toArray
    rw [← hW, show (w.alloc (.cells (byteCells (zerosB 16)).toArray 77)).heap.size = l by rw [hl]; simp, List.toList_toArray] at this
    exact this
  have F0 : Fr [] w W := by rw [hW]; exact (Fr.alloc _ _ _).trans (Fr.alloc _ _ _)
  have hfl : f ≠ l ∧ w.heap.size ≤ f ∧ w.heap.size ≤ l := by omega
  have hz16 : (byteCells (zerosB 16)).length = 16 := by simp [byteCells_length, zerosB]
  have hcp1 : ∀ ty cap, (Builtin.copy_ #[35, 9] ty #[.slice (some ⟨f, 0, none⟩) 16 cap, .string k]).run Tryd.prog W = .ok (.int .i64 (16 : Int)) (W.setRow f (byteCells (K.take 16)).toArray) := fun ty cap => by
    have := run_copy_cut (P := Tryd.prog) W 35 9 ty 5 f 0 16 cap k _ _ Tryd.underlying35 (by kernel_rfl) A0.out 16 (by omega) (by simp [hz16])
    rw [this, ← hK]
    simp [goInt, byteCells, zerosB]
  have A1 := A0.setRow (byteCells (K.take 16)).toArray
  rw [List.toList_toArray] at A1
  have B1 := B0.setRow_other (k := f) (Ne.symm hfl.1) (byteCells (K.take 16)).toArray
  have F1 := F0.new (S := [f]) (Fr.setRow [f] W f (byteCells (K.take 16)).toArray (.inl (by simp))) (by simp; exact hfl.2.1)
  have hk2 : (k.extract 16 k.size).size = 16 := by rw [ByteArray.size_extract]; omega
  have hk2d : (k.extract 16 k.size).data.toList = K.drop 16 := by rw [extract_tail _ _ _ rfl, hK]
  obtain ⟨k2, hk2e⟩ : ∃ k2, k2 = k.extract 16 k.size := ⟨_, rfl⟩
  rw [← hk2e] at hk2 hk2d
  have hcp2 : ∀ ty cap w', At w' l 77 (byteCells (zerosB 16)) → (Builtin.copy_ #[35, 9] ty #[.slice (some ⟨l, 0, none⟩) 16 cap, .string k2]).run Tryd.prog w' = .ok (.int .i64 (16 : Int)) (w'.setRow l (byteCells (K.drop 16)).toArray) := fun ty cap w' h => by
    have := run_copy_cut (P := Tryd.prog) w' 35 9 ty 5 l 0 16 cap k2 _ _ Tryd.underlying35 (by kernel_rfl) h.out 16 (by omega) (by simp [hz16])
    rw [this, hk2d]
    have e : (K.drop 16).take 16 = K.drop 16 := List.take_of_length_le (by simp; omega)
    simp [goInt, byteCells, zerosB, ← List.map_take, e]
  have l1 : (k.size : Int) = 32 := by omega
  have k16 : (16 : Int) ≤ k.size := by omega
  have HK := Lib.hid (And.intro hK (And.intro hkl (And.intro hk (And.intro hfl hk2d))))
  have ek := hk2e.symm
  clear hK hkl hk hk2d hk2e
  go_enter Tryd.func35, Tryd.ntmps35
  go_upto_region 4 with fail
  change Code.wp _ _ _ _ ((w.alloc (.cells (byteCells (zerosB 16)).toArray 77)).alloc (.cells (byteCells (zerosB 16)).toArray 77))
  rw [← hW, ← hl, ← hf]
  clear hW hl hf A0
  go_upto_region 5 with fail
  generalize W.setRow f (byteCells (K.take 16)).toArray = W1 at A1 B1 F1 ⊢
  have hc1 : ∀ ty cap, _ := fun ty cap => hcp2 ty cap W1 B1
  have hc2 : ∀ ty cap, _ := fun ty cap => hcp2 ty cap W1.drew B1.drew
  clear hcp1 hcp2 B0 F0
  go_region
  have B2 := (B1.setRow (byteCells (K.drop 16)).toArray).drew
  rw [List.toList_toArray] at B2
  have A2 := (A1.setRow_other (k := l) hfl.1 (byteCells (K.drop 16)).toArray).drew
  have F2 := F1.new (S := [l]) ((Fr.setRow [l] W1 l (byteCells (K.drop 16)).toArray (.inl (by simp))).trans (Fr.drew _ _)) (by simp; exact hfl.2.2)
  generalize (W1.setRow l (byteCells (K.drop 16)).toArray).drew = W2 at A2 B2 F2 ⊢
  clear hc1 hc2 A1 B1 F1 hz16 ek hk2
  go_wp2_with fail
  have hK16 : (K.take 16).length = 16 := by have := HK.out.2.1; simp; omega
  have i4 := idx4
  have i3 := idx3
  go_loopw [22] (fun v wr => ∃ i : Nat, i ≤ 4 ∧ v = .int .i64 i ∧ At wr f 77 (byteCells (maskTo [3, 7, 11, 15] 15 (K.take 16) i)) ∧ At wr l 77 (byteCells (K.drop 16)) ∧ Fr [] w wr) (fun v _ => 4 - (RowKit.intOf v).toNat)
  case atStart => exact ⟨0, by omega, rfl, A2, B2, F2⟩
  case round =>
    clear A2 B2 F2
    obtain ⟨i, hi, rfl, hA, hB, hF⟩ := hrel
    have hml := maskTo_len [3, 7, 11, 15] 15 (K.take 16) i
    by_cases hli : i < 4
    · have m1 : (i : Int) < 4 := by omega
      have w2 : IntKind.i64.wrap ((i : Int) + 1) = ((i + 1 : Nat) : Int) := by rw [IntWalk.i64_in _ (by omega)]; omega
      have ix := i4 wr i hli
      have hp := pos4 i hli
      have hst : maskTo [3, 7, 11, 15] 15 (K.take 16) (i + 1) = (maskTo [3, 7, 11, 15] 15 (K.take 16) i).set (([3, 7, 11, 15] : List Nat).getD i 0) ((maskTo [3, 7, 11, 15] 15 (K.take 16) i).getD (([3, 7, 11, 15] : List Nat).getD i 0) 0 &&& 15) := rfl
      generalize ([3, 7, 11, 15] : List Nat).getD i 0 = p at ix hp hst
      have c0 := hA.cell p
      have z0 := hA.frozen p
      rw [byteCells_getD _ _ (by omega)] at c0
      generalize (maskTo [3, 7, 11, 15] 15 (K.take 16) i).getD p 0 = x at c0 hst
      have hA2 := hA.setCell p (.int .u8 (bt (x &&& 15)))
      rw [byteCells_setD, ← hst] at hA2
      have hB2 := hB.setCell_other (a := ⟨f, p, none⟩) (by simpa using Ne.symm hfl.1) (.int .u8 (bt (x &&& 15)))
      have F3 := hF.new (S := [f]) (Fr.setCell [f] wr ⟨f, p, none⟩ (.int .u8 (bt (x &&& 15))) (.inl (by simp))) (by simp; exact hfl.2.1)
      have hpI : (p : Int) < 16 := by omega
      clear hst hml hA hB hF i4 i3
      go_wp2_with fail
      exact ⟨⟨i + 1, by omega, by simp, hA2, hB2, F3⟩, by simp only [RowKit.intOf]; omega⟩
    · obtain rfl : i = 4 := by omega
      have m1 : ¬ ((4 : Nat) : Int) < 4 := by omega
      clear i4 hml
      go_wp2_with fail
      obtain ⟨M, hM⟩ : ∃ M, M = maskTo [3, 7, 11, 15] 15 (K.take 16) 4 := ⟨_, rfl⟩
      have hMl : M.length = 16 := by rw [hM, maskTo_len]; exact hK16
      rw [← hM] at hA
      have HM := Lib.hid hM
      clear hM
      go_loopw [32] (fun v wr => ∃ i : Nat, i ≤ 3 ∧ v = .int .i64 i ∧ At wr f 77 (byteCells (maskTo [4, 8, 12] 252 M i)) ∧ At wr l 77 (byteCells (K.drop 16)) ∧ Fr [] w wr) (fun v _ => 3 - (RowKit.intOf v).toNat)
      case atStart => exact ⟨0, by omega, rfl, hA, hB, hF⟩
      case round =>
        clear hA hB hF
        obtain ⟨i, hi, rfl, hA, hB, hF⟩ := hrel
        have hml := maskTo_len [4, 8, 12] 252 M i
        by_cases hli : i < 3
        · have m1 : (i : Int) < 3 := by omega
          have w2 : IntKind.i64.wrap ((i : Int) + 1) = ((i + 1 : Nat) : Int) := by rw [IntWalk.i64_in _ (by omega)]; omega
          have ix := i3 wr i hli
          have hp := pos3 i hli
          have hst : maskTo [4, 8, 12] 252 M (i + 1) = (maskTo [4, 8, 12] 252 M i).set (([4, 8, 12] : List Nat).getD i 0) ((maskTo [4, 8, 12] 252 M i).getD (([4, 8, 12] : List Nat).getD i 0) 0 &&& 252) := rfl
          generalize ([4, 8, 12] : List Nat).getD i 0 = p at ix hp hst
          have c0 := hA.cell p
          have z0 := hA.frozen p
          rw [byteCells_getD _ _ (by omega)] at c0
          generalize (maskTo [4, 8, 12] 252 M i).getD p 0 = x at c0 hst
          have hA2 := hA.setCell p (.int .u8 (bt (x &&& 252)))
          rw [byteCells_setD, ← hst] at hA2
          have hB2 := hB.setCell_other (a := ⟨f, p, none⟩) (by simpa using Ne.symm hfl.1) (.int .u8 (bt (x &&& 252)))
          have F3 := hF.new (S := [f]) (Fr.setCell [f] wr ⟨f, p, none⟩ (.int .u8 (bt (x &&& 252))) (.inl (by simp))) (by simp; exact hfl.2.1)
          have hpI : (p : Int) < 16 := by omega
          clear hst hml hA hB hF i3
          go_wp2_with fail
          exact ⟨⟨i + 1, by omega, by simp, hA2, hB2, F3⟩, by simp only [RowKit.intOf]; omega⟩
        · obtain rfl : i = 3 := by omega
          have m1 : ¬ ((3 : Nat) : Int) < 3 := by omega
          have hcl : clampUp (K.take 16) = maskTo [4, 8, 12] 252 M 3 := by rw [clampUp, HM.out]
          have hR : rOf K = loadL (maskTo [4, 8, 12] 252 M 3) 0 := by rw [rOf, hcl]
          have z64 : (.int .u64 (qd 0) : Value) = .int .u64 0 := rfl
          have cL := pload_any (maskTo [4, 8, 12] 252 M 3) (by omega) 0 f 0 wr hA.lt (bytes_at hA)
          rw [← hR, z64] at cL
          have hRl := rOf_len K
          have HR := Lib.hid hR
          obtain ⟨R, hRR⟩ : ∃ R, R = rOf K := ⟨_, rfl⟩
          rw [← hRR] at cL hRl
          have hbt := mac_built R hRl
          have HRR := Lib.hid hRR
          obtain ⟨mc, hmc⟩ : ∃ mc, mc = mcells [0, 0, 0, 0, 0] R [0, 0] (List.replicate 16 0) 0 := ⟨_, rfl⟩
          rw [← hmc] at hbt
          have HMC := Lib.hid hmc
          clear hmc
          clear i3 hml hcl hR z64 hRR
          go_upto_region 17 with (first
            | (go_at_call 54; refine cL.mono ?_; clear cL; rintro e w3 ⟨rfl, f3⟩)
            | refine wpList_built rfl 87 _ rfl mc.toArray (by rw [List.map_toArray]; exact hbt) ?_
            | fail)
          have M0 := At.alloc_new w3 87 mc.toArray
          rw [List.toList_toArray] at M0
          have B3 := (f3.keep hB (by simp)).alloc (.cells mc.toArray 87)
          have F4 := (hF.trans f3).trans (Fr.alloc [] w3 (.cells mc.toArray 87))
          have hbw : w.heap.size ≤ w3.heap.size := (hF.trans f3).size
          generalize (w3.alloc (.cells mc.toArray 87)) = W4 at M0 B3 F4 ⊢
          generalize w3.heap.size = b at M0 hbw ⊢
          have hK2l : (K.drop 16).length = 16 := by have := HK.out.2.1; simp; omega
          obtain ⟨V, hV⟩ : ∃ V : Nat → UInt64, V = fun o => if o = 0 then s0Of K else s1Of K := ⟨_, rfl⟩
          have V1 : V 0 = s0Of K := by rw [hV]; simp
          have V2 : V 8 = s1Of K := by rw [hV]; simp
          have hlB : b ≠ l := at_types M0 B3 (by decide)
          have cV : ∀ w' o cap, (o = 0 ∨ o = 8) → At w' l 77 (byteCells (K.drop 16)) → Calls Tryd.prog 55 #[.slice (some ⟨l, o, none⟩) 8 cap] w' fun e w'' => e = .returned (.int .u64 (qd (V o))) ∧ w' = w'' := fun w' o cap ho h => by
            have hb := bytes_at h
            rcases ho with rfl | rfl
            · rw [V1]; exact pword_any ((K.drop 16).take 8) (by rw [List.length_take, hK2l]; rfl) l 0 cap w' (hb.take 8)
            · rw [V2]; exact pword_any ((K.drop 16).drop 8) (by rw [List.length_drop, hK2l]) l 8 cap w' (by have := hb.drop 8; rwa [Nat.zero_add] at this)
          have HV := Lib.hid (And.intro V1 V2)
          clear V1 V2 hV f3 hbt hA hB hF
          refine wp_region_until (fun w' => At w' l 77 (byteCells (K.drop 16))) (fun _ => True) 1000 (by rfl) ?_
          have hT : True := trivial
          have s0 := B3.drew
          refine until_s0 0 (v := ?_) rfl (by kernel_rfl) (fun _ _ _ h => h) (Or.inl ⟨by rfl, ?_⟩) (by assumption) (fun h => by first | assumption | exact absurd (h : true = false) (by decide)) ?_
          rotate_left
          · intro w hSw; (try dsimp only at hSw); (try go_simp); (try with_reducible rfl)
          try simp only [Act.put, List.setIfInBounds_toArray, List.set_cons_zero, List.set_cons_succ]
          refine until_s0 1 (v := ?_) rfl (by kernel_rfl) (fun _ _ _ h => h) (Or.inl ⟨by rfl, ?_⟩) (by assumption) (fun h => by first | assumption | exact absurd (h : true = false) (by decide)) ?_
          rotate_left
          · intro w hSw; (try dsimp only at hSw); (try go_simp); (try with_reducible rfl)
          try simp only [Act.put, List.setIfInBounds_toArray, List.set_cons_zero, List.set_cons_succ]
          refine until_s0 2 (v := ?_) rfl (by kernel_rfl) (fun _ _ _ h => h) (Or.inl ⟨by rfl, ?_⟩) (by assumption) (fun h => by first | assumption | exact absurd (h : true = false) (by decide)) ?_
          rotate_left
          · intro w hSw; (try dsimp only at hSw); (try go_simp); (try with_reducible rfl)
          try simp only [Act.put, List.setIfInBounds_toArray, List.set_cons_zero, List.set_cons_succ]
          refine until_s0 4 (v := ?_) rfl (by kernel_rfl) (fun _ _ _ h => h) (Or.inl ⟨by rfl, ?_⟩) (by assumption) (fun h => by first | assumption | exact absurd (h : true = false) (by decide)) ?_
          rotate_left
          · intro w hSw; (try dsimp only at hSw); (try go_simp); (try with_reducible rfl)
          try simp only [Act.put, List.setIfInBounds_toArray, List.set_cons_zero, List.set_cons_succ]
          refine until_s0 6 (v := ?_) rfl (by kernel_rfl) (fun _ _ _ h => h) (Or.inl ⟨by rfl, ?_⟩) (by assumption) (fun h => by first | assumption | exact absurd (h : true = false) (by decide)) ?_
          rotate_left
          · intro w hSw; (try dsimp only at hSw); (try go_simp); (try with_reducible rfl)
          try simp only [Act.put, List.setIfInBounds_toArray, List.set_cons_zero, List.set_cons_succ]
          refine until_s0 7 (v := ?_) rfl (by kernel_rfl) (fun _ _ _ h => h) (Or.inl ⟨by rfl, ?_⟩) (by assumption) (fun h => by first | assumption | exact absurd (h : true = false) (by decide)) ?_
          rotate_left
          · intro w hSw; (try dsimp only at hSw); (try go_simp); (try with_reducible rfl)
          try simp only [Act.put, List.setIfInBounds_toArray, List.set_cons_zero, List.set_cons_succ]
          refine until_s0 10 (v := ?_) rfl (by kernel_rfl) (fun _ _ _ h => h) (Or.inl ⟨by rfl, ?_⟩) (by assumption) (fun h => by first | assumption | exact absurd (h : true = false) (by decide)) ?_
          rotate_left
          · intro w hSw; (try dsimp only at hSw); (try go_simp); (try with_reducible rfl)
          try simp only [Act.put, List.setIfInBounds_toArray, List.set_cons_zero, List.set_cons_succ]
          refine until_s0 11 (v := ?_) rfl (by kernel_rfl) (fun _ _ _ h => h) (Or.inl ⟨by rfl, ?_⟩) (by assumption) (fun h => by first | assumption | exact absurd (h : true = false) (by decide)) ?_
          rotate_left
          · intro w hSw; (try dsimp only at hSw); (try go_simp); (try with_reducible rfl)
          try simp only [Act.put, List.setIfInBounds_toArray, List.set_cons_zero, List.set_cons_succ]
          refine until_sole 3 rfl (by kernel_rfl) (by rfl) ?_
          intro K' hK
          go_simp
          go_at_call 55
          refine (cV _ _ _ (by simp) s0).mono ?_
          rintro _ w5 ⟨rfl, rfl⟩
          go_wp2_with fail
          refine hK _ _ s0 (fun _ => trivial) ?_
          clear hK
          refine until_sole 5 rfl (by kernel_rfl) (by rfl) ?_
          intro K' hK
          go_simp
          go_at_call 55
          refine (cV _ _ _ (by simp) s0).mono ?_
          rintro _ w6 ⟨rfl, rfl⟩
          go_wp2_with fail
          refine hK _ _ s0 (fun _ => trivial) ?_
          clear hK
          refine until_s0 8 (v := ?_) rfl (by kernel_rfl) (fun _ _ _ h => h) (Or.inl ⟨by rfl, ?_⟩) (by assumption) (fun h => by first | assumption | exact absurd (h : true = false) (by decide)) ?_
          rotate_left
          · intro w hSw; (try dsimp only at hSw); (try go_simp); (try with_reducible rfl)
          try simp only [Act.put, List.setIfInBounds_toArray, List.set_cons_zero, List.set_cons_succ]
          have c10 := M0.cell 10
          have z10 := M0.frozen 10
          have c11 := M0.cell 11
          have z11 := M0.frozen 11
          rw [HMC.out, mc_get10 _ _ _ _ _ _ rfl hRl] at c10
          rw [HMC.out, mc_get11 _ _ _ _ _ _ rfl hRl] at c11
          have s1 := s0.setCell_other (a := ⟨b, 10, none⟩) (by simpa using Ne.symm hlB) (.int .u64 (qd (V 0)))
          have M1 := M0.setCell 10 (.int .u64 (qd (V 0)))
          have d11 := M1.cell 11
          have y11 := M1.frozen 11
          rw [HMC.out, List.getElem?_set_ne (by omega), mc_get11 _ _ _ _ _ _ rfl hRl] at d11
          refine until_sole 9 rfl (by kernel_rfl) (by rfl) ?_
          intro K' hK
          go_simp
          refine hK _ _ s1 (fun _ => trivial) ?_
          clear hK
          refine until_s0 12 (v := ?_) rfl (by kernel_rfl) (fun _ _ _ h => h) (Or.inl ⟨by rfl, ?_⟩) (by assumption) (fun h => by first | assumption | exact absurd (h : true = false) (by decide)) ?_
          rotate_left
          · intro w hSw; (try dsimp only at hSw); (try go_simp); (try with_reducible rfl)
          try simp only [Act.put, List.setIfInBounds_toArray, List.set_cons_zero, List.set_cons_succ]
          refine until_sole 13 rfl (by kernel_rfl) (by rfl) ?_
          intro K' hK
          go_simp
          have s2 := s1.setCell_other (a := ⟨b, 11, none⟩) (by simpa using Ne.symm hlB) (.int .u64 (qd (V 8)))
          refine hK _ _ s2 (fun _ => trivial) ?_
          clear hK
          refine until_done (by kernel_rfl) ?_ _
          go_wp2_with fail
          go_ret2
          have M2 := M1.setCell 11 (.int .u64 (qd (V 8)))
          rw [HMC.out, mc_set _ _ _ _ _ _ _ _ rfl hRl, HV.out.1, HV.out.2, HRR.out] at M2
          refine ⟨b, rfl, hbw, ⟨List.replicate 16 0, by simp, rfl, ?_⟩, ?_⟩
          · rw [HV.out.1, HV.out.2]; exact M2
          · have FF := F4.new (S := [b]) (((Fr.setCell [b] W4 ⟨b, 10, none⟩ (.int .u64 (qd (V 0))) (.inl (by simp))).trans (Fr.setCell [b] _ ⟨b, 11, none⟩ (.int .u64 (qd (V 8))) (.inl (by simp)))).trans (Fr.drew _ _)) (by simp; exact hbw)
            exact FF
end Go.Proofs.YtichgiecohhmgaaDoor
