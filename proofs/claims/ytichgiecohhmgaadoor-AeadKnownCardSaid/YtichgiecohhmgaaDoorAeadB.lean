/- The program's layer 6: pieces handed on; the tag of a session. -/
import Derived.Test.YtichgiecohhmgaaDoorAeadA
namespace Go.Proofs.YtichgiecohhmgaaDoor
open Go.RowKit Go.Lib Go.Joins Base
set_option linter.unusedVariables false
set_option linter.unusedSimpArgs false

def joinB (ps : List ByteArray) : List UInt8 := (ps.map (·.data.toList)).flatten
theorem joinB_take (ps : List ByteArray) (i : Nat) (d : ByteArray) (h : ps[i]? = some d) : joinB (ps.take (i + 1)) = joinB (ps.take i) ++ d.data.toList := by
  rw [List.take_add_one, h]; simp [joinB]
theorem joinB_le (ps : List ByteArray) (i : Nat) : (joinB (ps.take i)).length ≤ (joinB ps).length := by
  have : joinB ps = joinB (ps.take i) ++ joinB (ps.drop i) := by simp [joinB, ← List.flatten_append, ← List.map_append]
  rw [this, List.length_append]; omega
set_option maxRecDepth 100000 in
set_option maxHeartbeats 1000000 in
theorem feed_any (K T : List UInt8) (ps : List ByteArray) (b g cap : Nat) (hb : T.length + (joinB ps).length ≤ 4611686018427387904) (hpl : ps.length ≤ 1000) (w : World) (hgb : g ≠ b) (hp : At w g 9 (ps.map Value.string)) (h : Macs w b K T) :
    Calls Tryd.prog 42 #[.func (.func 36) #[.pointer (some ⟨b, 0, none⟩)] #[], .slice (some ⟨g, 0, none⟩) ps.length cap] w fun e w' => e = .returned (.int .i64 0) ∧ Macs w' b K (T ++ joinB ps) ∧ Fr [b] w w' := by
  have HB := Lib.hid (And.intro hb (And.intro hpl hgb))
  clear hb hpl hgb
  go_enter Tryd.func42, Tryd.ntmps42
  go_wp2_with fail
  go_loopw [10] (fun v wr => ∃ i : Nat, i ≤ ps.length ∧ v = .int .i64 i ∧ At wr g 9 (ps.map Value.string) ∧ Macs wr b K (T ++ joinB (ps.take i)) ∧ Fr [b] w wr) (fun v _ => ps.length - (RowKit.intOf v).toNat)
  case atStart => exact ⟨0, by omega, rfl, hp, by simpa [joinB] using h, Fr.refl _ _⟩
  case round =>
    clear hp h
    obtain ⟨i, hi, rfl, hp, hm, hF⟩ := hrel
    obtain ⟨hbn, hpl, hgb⟩ := HB.out
    by_cases hli : i < ps.length
    · have l1 : (i : Int) < ps.length := by omega
      have w2 : IntKind.i64.wrap ((i : Int) + 1) = ((i + 1 : Nat) : Int) := by rw [IntWalk.i64_in _ (by omega)]; omega
      obtain ⟨d, hd⟩ : ∃ d, ps[i]? = some d := ⟨_, List.getElem?_eq_getElem hli⟩
      have ci := hp.cell i
      rw [List.getElem?_map, hd] at ci
      change _ = some (Value.string d) at ci
      have hj := joinB_take ps i d hd
      have hle := joinB_le ps (i + 1)
      rw [hj, List.length_append] at hle
      have cW := pwrite_any K (T ++ joinB (ps.take i)) d (by rw [List.length_append]; simp at hle; omega) b wr hm
      rw [List.append_assoc, ← hj] at cW
      have HG := Lib.hid hgb
      clear hj hle hd hm hbn hpl hgb
      go_wp2_with (first
        | (go_at_call 36; refine cW.mono ?_; clear cW; rintro e w3 ⟨rfl, h3, f3⟩)
        | fail)
      exact ⟨⟨i + 1, by omega, by simp, f3.keep hp (by simp; exact HG.out), h3, hF.trans f3⟩, by simp only [RowKit.intOf]; omega⟩
    · obtain rfl : i = ps.length := by omega
      have l1 : ¬ (ps.length : Int) < ps.length := by omega
      rw [List.take_of_length_le (Nat.le_refl _)] at hm
      clear hbn hpl hgb
      go_wp2_with fail
      go_ret
      exact ⟨rfl, hm, hF⟩
/-- What is summed: both texts filled up, and their lengths. -/
def summed (a c : List UInt8) : List UInt8 := a ++ (fillL a.length ++ (c ++ (fillL c.length ++ (sizeL a.length ++ sizeL c.length))))
/-- The tag of a cipher text. -/
def tagOf (k n a c : List UInt8) : List UInt8 := tagL ((blk k n 0).take 32) (summed a c)
theorem tagOf_len (k n a c : List UInt8) : (tagOf k n a c).length = 16 := tagL_len _ _
set_option maxRecDepth 100000 in
set_option maxHeartbeats 2000000 in
theorem stag_any (k n a c : ByteArray) (hk : k.size = 32) (hn : n.size = 12) (ha : a.size ≤ 1152921504606846976) (hc : c.size ≤ 1152921504606846976) (w : World) (ht : Rounds w) :
    Calls Tryd.prog 26 #[.agg #[.string k, .string n], .string a, .string c] w fun e w' => e = .returned (.tuple #[.string ⟨(tagOf k.data.toList n.data.toList a.data.toList c.data.toList).toArray⟩, .int .i64 0]) ∧ Fr [] w w' := by
  have cB := fun w h => block_ok k n hk hn 0 w h
  rw [show wd 0 = 0 from rfl] at cB
  obtain ⟨B, hB⟩ : ∃ B : ByteArray, B = ⟨(blk k.data.toList n.data.toList 0).toArray⟩ := ⟨_, rfl⟩
  rw [← hB] at cB
  have hkl : k.data.toList.length = 32 := by rw [← hk]; simp
  have hnl : n.data.toList.length = 12 := by rw [← hn]; simp
  have hBd : B.data.toList = blk k.data.toList n.data.toList 0 := by rw [hB]
  have hBs : B.size = 64 := by
    have h1 : B.data.toList.length = B.size := by simp
    rw [hBd, blk_len _ _ _ hkl hnl] at h1
    exact h1.symm
  obtain ⟨h32, hh32⟩ : ∃ h, h = B.extract 0 32 := ⟨_, rfl⟩
  have hh : h32.size = 32 := by rw [hh32, ByteArray.size_extract]; omega
  have hhd : h32.data.toList = (blk k.data.toList n.data.toList 0).take 32 := by
    rw [hh32, ByteArray.data_extract, Array.toList_extract, List.extract_eq_take_drop, hBd, List.drop_zero, Nat.sub_zero]
  have cN := fun w => pnew_any h32 hh w
  have cF1 := fun w => fill_any a (by omega) w
  have cF2 := fun w => fill_any c (by omega) w
  have cS1 := fun w => size_any a (by omega) w
  have cS2 := fun w => size_any c (by omega) w
  have la : a.data.toList.length = a.size := by simp
  have lc : c.data.toList.length = c.size := by simp
  obtain ⟨f1, hf1⟩ : ∃ x : ByteArray, x = ⟨(fillL a.size).toArray⟩ := ⟨_, rfl⟩
  obtain ⟨f2, hf2⟩ : ∃ x : ByteArray, x = ⟨(fillL c.size).toArray⟩ := ⟨_, rfl⟩
  obtain ⟨s1, hs1⟩ : ∃ x : ByteArray, x = ⟨(sizeL a.size).toArray⟩ := ⟨_, rfl⟩
  obtain ⟨s2, hs2⟩ : ∃ x : ByteArray, x = ⟨(sizeL c.size).toArray⟩ := ⟨_, rfl⟩
  rw [← hf1] at cF1
  rw [← hf2] at cF2
  rw [← hs1] at cS1
  rw [← hs2] at cS2
  have hjoin : joinB [a, f1, c, f2, s1, s2] = summed a.data.toList c.data.toList := by
    simp [joinB, summed, hf1, hf2, hs1, hs2]
  have hjl : (joinB [a, f1, c, f2, s1, s2]).length ≤ 4611686018427387904 := by
    rw [hjoin]; simp [summed, fillL_len, sizeL_len]; omega
  have cD := fun b g cap w h1 h2 h3 => feed_any h32.data.toList [] [a, f1, c, f2, s1, s2] b g cap (by simpa using hjl) (by simp) w h1 h2 h3
  rw [List.nil_append, hjoin] at cD
  have cD6 : ∀ (b g : Nat) (w : World), g ≠ b → At w g 9 [.string a, .string f1, .string c, .string f2, .string s1, .string s2] → Macs w b h32.data.toList [] → Calls Tryd.prog 42 #[.func (.func 36) #[.pointer (some ⟨b, 0, none⟩)] #[], .slice (some ⟨g, 0, none⟩) 6 6] w fun e w' => e = .returned (.int .i64 0) ∧ Macs w' b h32.data.toList (summed a.data.toList c.data.toList) ∧ Fr [b] w w' := fun b g w h1 h2 h3 => cD b g 6 w h1 h2 h3
  clear cD
  have cM := fun b w h => psum_any h32.data.toList (summed a.data.toList c.data.toList) b w h
  rw [show tagL h32.data.toList (summed a.data.toList c.data.toList) = tagOf k.data.toList n.data.toList a.data.toList c.data.toList by rw [hhd, tagOf]] at cM
  obtain ⟨Y, hY⟩ : ∃ Y : ByteArray, Y = ⟨(tagOf k.data.toList n.data.toList a.data.toList c.data.toList).toArray⟩ := ⟨_, rfl⟩
  rw [← hY] at cM ⊢
  generalize h32.data.toList = K at cN cD6 cM
  generalize summed a.data.toList c.data.toList = T at cD6 cM
  have eh := hh32.symm
  have k32 : (32 : Int) ≤ B.size := by omega
  have A0 := At.alloc_new w 43 #[.string k, .string n]
  have F0 := Fr.alloc [] w (.cells #[.string k, .string n] 43)
  have q0 := A0.cell 0
  have q1 := A0.cell 1
  clear hB hBd hhd hh hjoin hjl hf1 hf2 hs1 hs2 la lc hY hh32 hkl hnl
  go_enter Tryd.func26, Tryd.ntmps26
  go_wp2_with (first
    | (go_at_call 15; refine (cB _ (ht.keep F0 (by simp))).mono ?_; clear cB; rintro e w1 ⟨rfl, g1⟩; have g1 := F0.trans g1)
    | (go_at_call 35; refine (cN _).mono ?_; clear cN; rintro e w2 ⟨b, rfl, hb, h2, g2⟩)
    | (go_at_call 43; refine (cF1 _).mono ?_; clear cF1; rintro e w3 ⟨rfl, g3⟩)
    | (go_at_call 43; refine (cF2 _).mono ?_; clear cF2; rintro e w4 ⟨rfl, g4⟩)
    | (go_at_call 44; refine (cS1 _).mono ?_; clear cS1; rintro e w5 ⟨rfl, g5⟩)
    | (go_at_call 44; refine (cS2 _).mono ?_; clear cS2; rintro e w6 ⟨rfl, g6⟩)
    | (go_at_call 42; have hlt : b < w2.heap.size := (by obtain ⟨cs, hA⟩ := h2.at_; exact hA.lt); have g26 := ((g3.trans g4).trans g5).trans g6; have hs26 := g26.size; refine (cD6 b w6.heap.size _ (by omega) (At.alloc_new w6 9 #[.string a, .string f1, .string c, .string f2, .string s1, .string s2]) (h2.keep (g26.trans (Fr.alloc [] _ _)) (by simp))).mono ?_; clear cD6; rintro e w7 ⟨rfl, h7, g7⟩)
    | (go_at_call 37; refine (cM b _ h7).mono ?_; clear cM; rintro e w8 ⟨rfl, g8⟩)
    | fail)
  go_ret2
  have hbw : w.heap.size ≤ b := Nat.le_trans g1.size hb
  exact ⟨rfl, (((g1.trans g2).trans (g26.trans (Fr.alloc _ _ _))).new g7 (by simp; exact hbw)).trans g8⟩
end Go.Proofs.YtichgiecohhmgaaDoor
