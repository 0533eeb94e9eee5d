/- Extract and Expand of the program. -/
import Derived.Test.YtbpaknnnkmjgjaaDoorKdfExpP
import Derived.Test.YtbpaknnnkmjgjaaDoorBld
import Derived.Test.YtbpaknnnkmjgjaaDoorLawKdfKeysW
namespace Go.Proofs.YtbpaknnnkmjgjaaDoor
open Go.RowKit Go.Lib Go.Joins Base
set_option linter.unusedVariables false
set_option linter.unusedSimpArgs false

theorem extract_any (salt secret : ByteArray) (hs : salt.size ≤ 1152921504606846976) (ht : secret.size ≤ 576460752303423488) (w : World) (hI : First w) (hR : Roots w) :
    Calls Tryd.prog 28 #[.string salt, .string secret] w fun e w' => e = .returned (.string ⟨(hmacL salt.data.toList secret.data.toList).toArray⟩) ∧ Fr [] w w' := by
  have cH := fun w g h1 h2 h3 => hmac_one salt secret hs ht w g h1 h2 h3
  go_enter Tryd.func28, Tryd.ntmps28
  go_wp2_with (first
    | (go_at_call 13; refine (cH _ _ (hI.keep (Fr.alloc _ _ _)) (hR.keep (Fr.alloc [] _ _) (by simp)) (At.alloc_new _ _ _)).mono ?_; rintro e w1 ⟨rfl, f1⟩)
    | fail)
  go_ret
  exact ⟨rfl, (Fr.alloc _ _ _).trans f1⟩

set_option maxRecDepth 100000 in
set_option maxHeartbeats 1000000 in
theorem expand_bad (prk info : ByteArray) (n : Int) (hn : n < 0 ∨ 8160 < n) (w : World) :
    Calls Tryd.prog 30 #[.string prk, .string info, .int .i64 n] w fun e w' => e = .returned (.tuple #[.string ⟨#[]⟩, .int .i64 31]) ∧ Fr [] w w' := by
  rcases hn with hn | hn
  · go_enter Tryd.func30, Tryd.ntmps30
    go_wp2_with fail
    go_ret2
    exact ⟨rfl, Fr.refl _ _⟩
  · have h0 : ¬ n < 0 := by omega
    go_enter Tryd.func30, Tryd.ntmps30
    go_wp2_with fail
    go_ret2
    exact ⟨rfl, Fr.refl _ _⟩

theorem At.alloc_new2 (w : World) (o : Obj) (T : TypeId) (cs : Array Value) : At ((w.alloc o).alloc (.cells cs T)) (w.heap.size + 1) T cs.toList := by
  have := At.alloc_new (w.alloc o) T cs; simpa using this
set_option maxRecDepth 100000 in
set_option maxHeartbeats 4000000 in
theorem expand_any (prk info : ByteArray) (hp : prk.size ≤ 1152921504606846976) (hf : info.size ≤ 140737488351232) (n : Nat) (hn : n ≤ 8160) (w : World) (hI : First w) (hR : Roots w) :
    Calls Tryd.prog 30 #[.string prk, .string info, .int .i64 n] w fun e w' => e = .returned (.tuple #[.string ⟨(expL prk.data.toList info.data.toList n).toArray⟩, .int .i64 0]) ∧ Fr [] w w' := by
  have cP := padsOf_any prk hp w hI hR
  obtain ⟨K, hK⟩ : ∃ K, K = prk.data.toList := ⟨_, rfl⟩
  obtain ⟨I, hIf⟩ : ∃ I, I = info.data.toList := ⟨_, rfl⟩
  have hIl : I.length = info.size := by rw [hIf]; simp
  rw [← hK] at cP ⊢
  rw [← hIf]
  obtain ⟨a, ha⟩ : ∃ a : ByteArray, a = ⟨(innerL K).toArray⟩ := ⟨_, rfl⟩
  obtain ⟨b, hb⟩ : ∃ b : ByteArray, b = ⟨(outerL K).toArray⟩ := ⟨_, rfl⟩
  rw [← ha, ← hb] at cP
  have cS : ∀ (i : Nat) (last : ByteArray) (g : Nat) (w' : World), last.data.toList = expT K I i → First w' → Roots w' → At w' g 9 [.string last, .string info, .string ⟨#[UInt8.ofNat (i + 1)]⟩] →
      Calls Tryd.prog 39 #[.agg #[.string a, .string b], .slice (some ⟨g, 0, none⟩) 3 3] w' fun e w'' => e = .returned (.string ⟨(expT K I (i + 1)).toArray⟩) ∧ Fr [] w' w'' := fun i last g w' h0 h1 h2 h3 => by
    have hj : joinL [last, info, ⟨#[UInt8.ofNat (i + 1)]⟩] = expT K I i ++ I ++ [UInt8.ofNat (i + 1)] := by
      simp [joinL, h0, hIf]
    have hle := expT_le K I i
    have := psum_any a b [last, info, ⟨#[UInt8.ofNat (i + 1)]⟩] (some ⟨g, 0, none⟩) 3 (.inl ⟨_, _, rfl⟩) (by rw [ha]; show (innerL K).toArray.size = 64; rw [List.size_toArray, innerL_len]) (by rw [hb]; show (outerL K).toArray.size = 64; rw [List.size_toArray, outerL_len]) (by rw [hj]; simp; omega) (by simp) w' h1 h2 (Texts.ofAt h3)
    rw [hj] at this
    rw [ha, hb] at this ⊢
    exact this
  clear ha hb hK hIf hIl
  have n0 : ¬ (n : Int) < 0 := by omega
  have n1 : ¬ (8160 : Int) < n := by omega
  go_enter Tryd.func30, Tryd.ntmps30
  go_wp2_with (first
    | (go_at_call 38; refine cP.mono ?_; clear cP; rintro e w1 ⟨rfl, f1⟩)
    | fail)
  have hF := f1.trans ((Fr.alloc [] w1 (.cells #[.string a, .string b] 63)).trans (Fr.alloc [] _ (.cells #[.pointer none, .slice none 0 0] 74)))
  have hA := (At.alloc_new w1 63 #[.string a, .string b]).alloc (.cells #[.pointer none, .slice none 0 0] 74)
  have hB := Bld.new (w1.alloc (.cells #[.string a, .string b] 63))
  obtain ⟨B, hBe⟩ : ∃ B, B = w1.heap.size + 1 := ⟨_, rfl⟩
  have hsB : (w1.alloc (.cells #[.string a, .string b] 63)).heap.size = B := by rw [hBe]; simp
  rw [hsB] at hB
  rw [← hBe]
  obtain ⟨p, hpe⟩ : ∃ p, p = w1.heap.size := ⟨_, rfl⟩
  have hpB : p < B := by omega
  have hwp : w.heap.size ≤ p := by have := f1.size; omega
  rw [← hpe] at hA ⊢
  obtain ⟨W, hW⟩ : ∃ W, W = (w1.alloc (.cells #[.string a, .string b] 63)).alloc (.cells #[.pointer none, .slice none 0 0] 74) := ⟨_, rfl⟩
  rw [← hW] at hF hA hB ⊢
  clear hW hsB hBe hpe f1
  go_loopw [10, 11] (fun v10 v11 wr => ∃ (i k : Nat) (last : ByteArray), k = i + 1 ∧ 32 * i < n + 32 ∧ v11 = .int .i64 k ∧ v10 = .string last ∧ last.data.toList = expT K I i ∧ Bld B (expA K I i) wr ∧ At wr p 63 [.string a, .string b] ∧ Fr [] w wr) (fun _ v _ => 256 - (intOf v).toNat)
  case atStart => exact ⟨0, 1, ⟨#[]⟩, rfl, by omega, rfl, rfl, rfl, hB, hA, hF⟩
  case round =>
    clear hF hA hB
    obtain ⟨i, k, last, hk, hi, rfl, rfl, hlast, hB, hA, hF⟩ := hrel
    have cN := bldLen_any B _ wr hB
    rw [expA_len] at cN
    by_cases hl : 32 * i < n
    · have l1 : ((32 * i : Nat) : Int) < n := by omega
      generalize ((32 * i : Nat) : Int) = z at cN l1
      have wK : IntKind.i64.wrap ((k : Int) + 1) = (k : Int) + 1 := IntWalk.i64_in _ (by omega)
      have wB : IntKind.u8.wrap (k : Int) = bt (UInt8.ofNat k) := ofNat_wrap k (by omega)
      have hcv : (convert 59 9 (.slice (some ⟨wr.heap.size, 0, none⟩) 1 1)).run Tryd.prog (wr.alloc (.cells #[.int .u8 (bt (UInt8.ofNat k))] 5)) = .ok (.string ⟨#[UInt8.ofNat k]⟩) (wr.alloc (.cells #[.int .u8 (bt (UInt8.ofNat k))] 5)) :=
        run_strB (P := Tryd.prog) (d := 9) Tryd.underlying59 Tryd.underlying5 Tryd.underlying9 _ wr.heap.size 0 1 5 [UInt8.ofNat k] [] [] (At.alloc_new wr 5 #[.int .u8 (bt (UInt8.ofNat k))]) rfl 1 rfl
      have cS1 := fun g w' h1 h2 h3 => cS i last g w' hlast h1 h2 h3
      rw [← hk] at cS1
      obtain ⟨nx, hnx⟩ : ∃ nx : ByteArray, nx = ⟨(expT K I k).toArray⟩ := ⟨_, rfl⟩
      have hnxd : nx.data.toList = expT K I k := by rw [hnx]
      have hnxs : nx.size = 32 := by have : nx.data.toList.length = nx.size := by simp
                                     rw [hnxd, expT_len _ _ _ (by omega)] at this; omega
      rw [← hnx] at cS1
      have cW := fun w' h => bldWriteString_any B (expA K I i) nx w' h (by rw [expA_len]; omega)
      have hAk : expA K I i ++ nx.data.toList = expA K I k := by rw [hnxd, hk]; rfl
      rw [hAk] at cW
      generalize UInt8.ofNat k = x at wB hcv cS1
      generalize (⟨#[x]⟩ : ByteArray) = sx at hcv cS1
      have c0 := hA.cell 0
      have c1 := hA.cell 1
      have HK := Lib.hid (And.intro hk hnxd)
      clear hk hnxd hAk hnx hlast hnxs
      go_wp2_with (first
        | (go_at_call 46; refine cN.mono ?_; clear cN; rintro e w2 ⟨rfl, rfl⟩; have fA : ∀ o1 o2, Fr [] w2 ((w2.alloc o1).alloc o2) := fun o1 o2 => (Fr.alloc [] w2 o1).trans (Fr.alloc [] _ o2))
        | (go_at_call 39; refine (cS1 _ _ (hI.keep (hF.trans (fA _ _))) (hR.keep (hF.trans (fA _ _)) (by simp)) (At.alloc_new2 _ _ _ _)).mono ?_; clear cS1; rintro e w3 ⟨rfl, f3⟩; have hF3 := (hF.trans (fA _ _)).trans f3; have hB3 := hB.fr ((fA _ _).trans f3) (by simp); have hA3 := ((fA _ _).trans f3).keep hA (by simp))
        | (go_at_call 47; refine (cW _ hB3).mono ?_; clear cW; rintro e w4 ⟨rfl, hB4, b4⟩)
        | fail)
      refine ⟨⟨k, k + 1, nx, rfl, by have := HK.out.1; omega, by simp, rfl, HK.out.2, hB4, (b4.block p hpB).trans hA3, Fr.ofBelow (hF3.below.trans (b4.mono (by omega)))⟩, ?_⟩
      have := HK.out.1
      simp only [intOf]; omega
    · have l1 : ¬ ((32 * i : Nat) : Int) < n := by omega
      have hin : i = piecesN n := by unfold piecesN; omega
      have cT := fun w' h => bldString_any B (expA K I i) w' h
      have hsz : (⟨(expA K I i).toArray⟩ : ByteArray).size = 32 * i := by show (expA K I i).toArray.size = _; rw [List.size_toArray, expA_len]
      have hex : (⟨(expA K I i).toArray⟩ : ByteArray).extract 0 n = ⟨(expL K I n).toArray⟩ := by rw [str_take, hin]; rfl
      generalize (⟨(expA K I i).toArray⟩ : ByteArray) = S at cT hsz hex
      obtain ⟨R, hRe⟩ : ∃ R : ByteArray, R = ⟨(expL K I n).toArray⟩ := ⟨_, rfl⟩
      rw [← hRe] at hex
      have HRe := Lib.hid hRe
      clear hRe
      have l2 : (n : Int) ≤ S.size := by omega
      have l3 : n ≤ S.size := by omega
      generalize ((32 * i : Nat) : Int) = z at cN l1
      clear hin hsz hk hl
      go_wp2_with (first
        | (go_at_call 46; refine cN.mono ?_; clear cN; rintro e w2 ⟨rfl, rfl⟩)
        | (go_at_call 48; refine (cT _ hB).mono ?_; clear cT; rintro e w5 ⟨rfl, b5⟩)
        | fail)
      go_ret2
      exact ⟨by rw [← HRe.out]; rfl, Fr.ofBelow (hF.below.trans (b5.mono (by omega)))⟩
end Go.Proofs.YtbpaknnnkmjgjaaDoor
