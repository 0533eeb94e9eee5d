/- The program's Poly1305: a tag at once; two texts compared. -/
import Derived.Test.YtichgiecohhmgaaDoorPolyF
namespace Go.Proofs.YtichgiecohhmgaaDoor
open Go.RowKit Go.Lib Go.Joins Base
set_option linter.unusedVariables false
set_option linter.unusedSimpArgs false

set_option maxRecDepth 100000 in
set_option maxHeartbeats 1000000 in
theorem ptag_any (k t : ByteArray) (hk : k.size = 32) (ht : t.size ≤ 4611686018427387904) (w : World) :
    Calls Tryd.prog 16 #[.string k, .string t] w fun e w' => e = .returned (.tuple #[.string ⟨(tagL k.data.toList t.data.toList).toArray⟩, .int .i64 0]) ∧ Fr [] w w' := by
  have c1 := fun w => pnew_any k hk w
  have c2 := fun b w h => pwrite_any k.data.toList [] t (by simp; omega) b w h
  have c3 := fun b w h => psum_any k.data.toList t.data.toList b w h
  simp only [List.nil_append] at c2
  go_enter Tryd.func16, Tryd.ntmps16
  go_wp2_with (first
    | (go_at_call 35; refine (c1 _).mono ?_; clear c1; rintro e w1 ⟨b, rfl, hb, h1, f1⟩)
    | (go_at_call 36; refine (c2 _ _ h1).mono ?_; clear c2; rintro e w2 ⟨rfl, h2, f2⟩)
    | (go_at_call 37; refine (c3 _ _ h2).mono ?_; clear c3; rintro e w3 ⟨rfl, f3⟩)
    | fail)
  go_ret2
  exact ⟨rfl, (f1.new f2 (by simp; exact hb)).trans f3⟩
theorem xor_bt (t : TypeId) (x y : UInt8) : binOp .xor t (.int .u8 (x.toNat : Int)) (.int .u8 (y.toNat : Int)) = pure (.int .u8 (bt (x ^^^ y))) := by
  have e : bits .xor .u8 (x.toNat : Int) (y.toNat : Int) = bt (x ^^^ y) := by unfold bt; rw [bits8_xor _ _ x.toNat_lt y.toNat_lt, UInt8.toNat_xor]
  rw [← e]; simp [binOp, intBits_xor]
theorem or_bt (t : TypeId) (x y : UInt8) : binOp .or t (.int .u8 (bt x)) (.int .u8 (bt y)) = pure (.int .u8 (bt (x ||| y))) := by
  have e : bits .or .u8 (bt x) (bt y) = bt (x ||| y) := by unfold bt; rw [bits8_or _ _ x.toNat_lt y.toNat_lt, UInt8.toNat_or]
  rw [← e]; simp [binOp, intBits_or]
theorem bt_inj {x y : UInt8} (h : bt x = bt y) : x = y := by unfold bt at h; exact UInt8.toNat_inj.1 (by omega)
theorem or_zero8 (x y : UInt8) : x ||| y = 0 ↔ x = 0 ∧ y = 0 := by
  constructor
  · intro h
    have h' : x.toNat ||| y.toNat = 0 := by rw [← UInt8.toNat_or, h]; rfl
    have := Nat.or_eq_zero_iff.1 h'
    exact ⟨UInt8.toNat_inj.1 this.1, UInt8.toNat_inj.1 this.2⟩
  · rintro ⟨rfl, rfl⟩; rfl
theorem xor_zero8 (x y : UInt8) : x ^^^ y = 0 ↔ x = y := by
  constructor
  · intro h
    have e : x ^^^ y ^^^ y = x := by rw [UInt8.xor_assoc, UInt8.xor_self, UInt8.xor_zero]
    rw [← e, h, UInt8.zero_xor]
  · rintro rfl; exact UInt8.xor_self
theorem bytes_ext (a b : ByteArray) (h : a.size = b.size) (hj : ∀ j, j < a.size → a.data.toList.getD j 0 = b.data.toList.getD j 0) : a = b := by
  apply ByteArray.ext
  apply Array.toList_inj.1
  have la : a.data.toList.length = a.size := by simp
  have lb : b.data.toList.length = b.size := by simp
  apply List.ext_getElem (by omega)
  intro n h1 h2
  have := hj n (by omega)
  simpa [List.getD, List.getElem?_eq_getElem h1, List.getElem?_eq_getElem h2] using this
set_option maxRecDepth 100000 in
set_option maxHeartbeats 1000000 in
theorem pequal_any (a b : ByteArray) (hs : a.size ≤ 4611686018427387904) (w : World) :
    Calls Tryd.prog 38 #[.string a, .string b] w fun e w' => e = .returned (.bool (decide (a = b))) ∧ Fr [] w w' := by
  by_cases hl : a.size = b.size
  · have l0 : (a.size : Int) = b.size := by omega
    have l0' : ((a.size : Int) != b.size) = false := by simp [hl]
    have HL := Lib.hid hl
    have hbs : b.size ≤ 4611686018427387904 := by omega
    clear hl
    go_enter Tryd.func38, Tryd.ntmps38
    go_upto_region 3 with fail
    clear l0 l0'
    go_wp2_with fail
    have z8 : (Value.int .u8 0) = .int .u8 (bt 0) := rfl
    go_loopw [5, 14] (fun v5 v14 wr => ∃ (i : Nat) (o : UInt8), i ≤ a.size ∧ v5 = .int .u8 (bt o) ∧ v14 = .int .i64 i ∧ (o = 0 ↔ ∀ j, j < i → a.data.toList.getD j 0 = b.data.toList.getD j 0) ∧ Fr [] w wr) (fun _ v _ => a.size - (RowKit.intOf v).toNat)
    case atStart => exact ⟨0, 0, by omega, rfl, rfl, ⟨fun _ j hj => by omega, fun _ => rfl⟩, Fr.refl _ _⟩
    case round =>
      obtain ⟨i, o, hi, rfl, rfl, ho, hF⟩ := hrel
      have hll := HL.out
      by_cases hli : i < a.size
      · have l1 : (i : Int) < a.size := by omega
        have l2 : (i : Int) < b.size := by omega
        have w2 : IntKind.i64.wrap ((i : Int) + 1) = ((i + 1 : Nat) : Int) := by rw [IntWalk.i64_in _ (by omega)]; omega
        have hib : i < b.size := by omega
        obtain ⟨x, hx⟩ : ∃ x, x = a.data.toList.getD i 0 := ⟨_, rfl⟩
        obtain ⟨y, hy⟩ : ∃ y, y = b.data.toList.getD i 0 := ⟨_, rfl⟩
        have ga : a[i]'hli = x := bget _ (by rw [hx, List.getD, List.getElem?_eq_getElem (by simpa using hli)]; rfl)
        have gb : b[i]'hib = y := bget _ (by rw [hy, List.getD, List.getElem?_eq_getElem (by simpa using hib)]; rfl)
        have hst : (o ||| (x ^^^ y)) = 0 ↔ ∀ j, j < i + 1 → a.data.toList.getD j 0 = b.data.toList.getD j 0 := by
          rw [or_zero8, xor_zero8, ho, hx, hy]
          constructor
          · rintro ⟨h1, h2⟩ j hj
            rcases Nat.lt_or_ge j i with h' | h'
            · exact h1 j h'
            · obtain rfl : j = i := by omega
              exact h2
          · intro h
            exact ⟨fun j hj => h j (by omega), h i (by omega)⟩
        have hxr := fun t => xor_bt t x y
        have hor := fun t => or_bt t o (x ^^^ y)
        have HS := Lib.hid hst
        clear hst hx hy ho hll
        go_wp2_with fail
        go_region
        go_wp2_with fail
        exact ⟨⟨i + 1, _, by omega, rfl, by simp, HS.out, by first | exact hF | exact hF.trans (Fr.drew _ _)⟩, by simp only [RowKit.intOf]; omega⟩
      · obtain rfl : i = a.size := by omega
        have l1 : ¬ (a.size : Int) < a.size := by omega
        have hz : (o = 0) ↔ a = b := by
          rw [ho]
          constructor
          · exact bytes_ext a b hll
          · rintro rfl j _; rfl
        by_cases h0 : o = 0
        · have he := hz.1 h0
          have hzb : bt o = 0 := by rw [h0]; rfl
          have HE := Lib.hid he
          clear h0 he hz ho hll
          go_wp2_with fail
          go_ret
          refine ⟨?_, hF⟩
          rw [decide_eq_true HE.out]
          first | rfl | (show Ending.returned (.bool (bt o == 0)) = _; simp [hzb])
        · have he : a ≠ b := fun h => h0 (hz.2 h)
          have hzb : ¬ bt o = 0 := fun h => h0 (bt_inj (h.trans rfl))
          have HE := Lib.hid he
          clear h0 he hz ho hll
          go_wp2_with fail
          go_ret
          refine ⟨?_, hF⟩
          rw [decide_eq_false HE.out]
          first | rfl | (show Ending.returned (.bool (bt o == 0)) = _; simp [hzb])
  · have l0 : ¬ (a.size : Int) = b.size := by omega
    have hne : a ≠ b := fun h => hl (by rw [h])
    have HL := Lib.hid hne
    rw [decide_eq_false hne]
    clear hl hne
    go_enter Tryd.func38, Tryd.ntmps38
    go_wp2_with fail
    go_ret
    exact ⟨rfl, Fr.refl _ _⟩
end Go.Proofs.YtichgiecohhmgaaDoor
