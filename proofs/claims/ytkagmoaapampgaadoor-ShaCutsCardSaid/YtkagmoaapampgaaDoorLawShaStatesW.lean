/- The law ShaStates walked. -/
import Derived.Test.YtkagmoaapampgaaDoorLawShaHexBackW
import Derived.Test.YtkagmoaapampgaaDoorShaRest
import Derived.Test.YtkagmoaapampgaaDoorBeyond
namespace Go.Proofs.YtkagmoaapampgaaDoor
open Go.RowKit Go.Lib Go.Joins Base
set_option linter.unusedVariables false
set_option linter.unusedSimpArgs false

theorem write_ok (H : List UInt32) (rest : List UInt8) (n b : Nat) (d : ByteArray) (hn : n + d.size ≤ 1099511627776) (w : World) (hR : Roots w) (h : Hold w b H rest n) :
    Calls Tryd.prog 23 #[.pointer (some ⟨b, 0, none⟩), .string d] w fun e w' =>
      e = .returned (.int .i64 0) ∧ Hold w' b (wordsOf H (rest ++ d.data.toList)) (restOf (rest ++ d.data.toList)) (n + d.size) ∧ Fr [b] w w' := by
  refine (write_any H rest n b d (by omega) w hR h).mono ?_
  rintro e w' (⟨h1, _⟩ | ⟨_, h2⟩)
  · omega
  · exact h2
theorem wordsOf_nil : wordsOf firstL [] = firstL := rfl
theorem restOf_nil : restOf ([] : List UInt8) = [] := rfl
theorem wordsOf_first (T : List UInt8) : T.length < 64 → wordsOf firstL T = firstL := fun h => wordsOf_short _ _ h

set_option maxRecDepth 100000 in
set_option maxHeartbeats 4000000 in
theorem states_law (state : ByteArray) (hst : state.size ≤ 140737488351232) (text : ByteArray) (htx : text.size ≤ 140737488351232) (w : World) (hI : First w) (hR : Roots w) :
    Calls Tryd.prog 7 #[.string state, .string text] w fun e w' => e = .returned (.bool true) ∧ Fr [] w w' := by
  have hrl := hR.lt
  -- the text's own running sum
  obtain ⟨T, hT⟩ : ∃ T, T = text.data.toList := ⟨_, rfl⟩
  have hTl : T.length = text.size := by rw [hT]; simp
  obtain ⟨ZB, hZB⟩ : ∃ ZB : ByteArray, ZB = ⟨(stateOf (wordsOf firstL T) (restOf T) T.length).toArray⟩ := ⟨_, rfl⟩
  have hZd : ZB.data.toList = stateOf (wordsOf firstL T) (restOf T) T.length := by rw [hZB]
  obtain ⟨m, hm⟩ : ∃ m, m = 39 + text.size % 64 := ⟨_, rfl⟩
  have hZs : ZB.size = m + 1 := by
    have h1 := (stateOf_parts (wordsOf firstL T) (restOf T) T.length (wordsOf_len _ _ rfl)).2.2.2
    rw [← hZd, restOf_len, hTl] at h1
    have h2 : ZB.data.toList.length = ZB.size := by simp
    omega
  have hrZ : T.length ≤ 1099511627776 → restP ZB.data.toList = some (wordsOf firstL T, restOf T, T.length) := fun h => by
    rw [hZd]
    exact restP_state _ _ _ (wordsOf_len _ _ rfl) (restOf_len T).symm h (fun h => wordsOf_first T h)
  have hcutZ : T.length ≤ 1099511627776 → restP (ZB.extract 0 m).data.toList = none ∧ restP (ZB ++ ⟨#[120]⟩).data.toList = none := fun h => by
    obtain ⟨h1, h2⟩ := restP_cut _ _ (hrZ h)
    have h3 : ZB.data.toList.length = ZB.size := by simp
    constructor
    · have e : (ZB.extract 0 m).data.toList = ZB.data.toList.take (ZB.data.toList.length - 1) := by
        rw [ByteArray.data_extract, Array.toList_extract, List.extract_eq_take_drop, h3, hZs]
        simp
      rw [e]; exact h1
    · have e : (ZB ++ ⟨#[120]⟩ : ByteArray).data.toList = ZB.data.toList ++ [120] := by
        rw [ByteArray.data_append]; simp
      rw [e]; exact h2 120
  have hbk : bulkL [text] = text.size + 1 := by simp [bulkL]
  have hjn : joinL [text] = T := by rw [hT]; simp [joinL]
  -- the calls
  have cB : ∀ w g, At w g 9 [.string text] → Calls Tryd.prog 21 #[.slice (some ⟨g, 0, none⟩) 1 1] w fun e w' => e = .returned (.bool (decide (2147483647 < text.size + 1))) ∧ Fr [] w w' := by
    intro w g h
    have := beyond_any [text] (some ⟨g, 0, none⟩) 1 (by simp) w (Texts.ofAt h)
    rw [hbk] at this
    exact this
  have cS : T.length ≤ 1099511627776 → ∀ w g, First w → Roots w → At w g 9 [.string text] → Calls Tryd.prog 10 #[.slice (some ⟨g, 0, none⟩) 1 1] w fun e w' => e = .returned (.string ⟨(shaL T).toArray⟩) ∧ Fr [] w w' := by
    intro hl w g h1 h2 h3
    have := sum_any [text] (some ⟨g, 0, none⟩) 1 (by rw [hjn]; omega) (by simp) w h1 h2 (Texts.ofAt h3)
    rw [hjn] at this
    exact this
  -- what Restore answers of the state
  obtain ⟨R1, hR1⟩ : ∃ R1, R1 = restP state.data.toList := ⟨_, rfl⟩
  have c1 := restore_any state (by omega) w hI hR
  rw [← hR1] at c1
  have cZ : T.length ≤ 1099511627776 → ∀ w, First w → Roots w → Calls Tryd.prog 19 #[.string ZB] w (restE (some (wordsOf firstL T, restOf T, T.length)) w) := fun hl w h1 h2 => by rw [← hrZ hl]; exact restore_any ZB (by omega) w h1 h2
  have cCut : T.length ≤ 1099511627776 → ∀ w, First w → Roots w → Calls Tryd.prog 19 #[.string (ZB.extract 0 m)] w (restE none w) := fun hl w h1 h2 => by rw [← (hcutZ hl).1]; exact restore_any _ (by rw [ByteArray.size_extract]; omega) w h1 h2
  have cLong : T.length ≤ 1099511627776 → ∀ w, First w → Roots w → Calls Tryd.prog 19 #[.string (ZB ++ ⟨#[120]⟩)] w (restE none w) := fun hl w h1 h2 => by rw [← (hcutZ hl).2]; exact restore_any _ (by rw [ByteArray.size_append]; show ZB.size + 1 ≤ _; omega) w h1 h2
  have cT : T.length ≤ 1099511627776 → ∀ w p, Hold w p (wordsOf firstL T) (restOf T) T.length → Calls Tryd.prog 20 #[.pointer (some ⟨p, 0, none⟩)] w fun e w' => e = .returned (.string ZB) ∧ Fr [] w w' := fun hl w p h => by rw [hZB]; exact state_any _ _ _ p (by omega) w h
  have cM : T.length ≤ 1099511627776 → ∀ w p, Roots w → Hold w p (wordsOf firstL T) (restOf T) T.length → Calls Tryd.prog 24 #[.pointer (some ⟨p, 0, none⟩)] w fun e w' => e = .returned (.string ⟨(shaL T).toArray⟩) ∧ Fr [] w w' := fun hl w p h1 h2 => by
    have := hsum_any _ _ _ p (by omega) w h1 h2
    rw [sumOf_rest] at this
    exact this
  have cW : T.length ≤ 1099511627776 → ∀ w p, Roots w → Hold w p firstL [] 0 → Calls Tryd.prog 23 #[.pointer (some ⟨p, 0, none⟩), .string text] w fun e w' => e = .returned (.int .i64 0) ∧ Hold w' p (wordsOf firstL T) (restOf T) T.length ∧ Fr [p] w w' := fun hl w p h1 h2 => by
    have := write_ok firstL [] 0 p text (by omega) w h1 h2
    rw [List.nil_append, ← hT, Nat.zero_add, ← hTl] at this
    exact this
  generalize (⟨(shaL T).toArray⟩ : ByteArray) = X at cM cS
  have hF := Fr.refl [] w
  have hzI : (ZB.size : Int) = m + 1 := by omega
  have hmI : (40 : Int) + (text.size : Int) % 64 = m + 1 := by omega
  have w1 : IntKind.i64.wrap ((m : Int) + 1 - 1) = m := by rw [show (m : Int) + 1 - 1 = m by omega]; exact IntWalk.i64_in _ (by omega)
  have w2 : IntKind.i64.wrap ((m : Int) + 1) = m + 1 := IntWalk.i64_in _ (by omega)
  have k1 : ¬ 9223372036854775807 < ZB.size + 1 := by omega
  have HT := Lib.hid (And.intro hT hTl)
  have HZ := Lib.hid (And.intro hZB (And.intro hZd (And.intro hm hZs)))
  have HZ2 := Lib.hid (And.intro hrZ (And.intro hcutZ (And.intro hbk hjn)))
  clear hT hZB hZd hm hZs hrZ hcutZ hbk hjn
  cases R1 with
  | none =>
    clear hR1
    by_cases hbig : 2147483647 < text.size + 1
    · have lb : decide (2147483647 < text.size + 1) = true := by simpa using hbig
      simp only [lb] at cB
      clear hbig lb cZ cCut cLong cT cM cW cS
      go_enter Tryd.func7, Tryd.ntmps7
      go_wp2_with (first
        | (go_at_call 19; (refine c1.mono ?_; clear c1; rintro e w1 ⟨rfl, f1⟩; have hF := hF.trans f1))
        | (go_at_call 21; refine (cB _ _ (At.alloc_new _ _ _)).mono ?_; clear cB; rintro e wB ⟨rfl, fB⟩; have hF := hF.trans ((Fr.alloc _ _ _).trans fB))
        | (go_at_call 17; refine (num2_any _ _).mono ?_; rintro e w3 ⟨rfl, rfl⟩)
        | fail)
      go_ret
      exact ⟨rfl, hF⟩
    · have lb : decide (2147483647 < text.size + 1) = false := by simpa using hbig
      simp only [lb] at cB
      have hl40 : T.length ≤ 1099511627776 := by have := HT.out.2; omega
      replace cZ := cZ hl40
      replace cCut := cCut hl40
      replace cLong := cLong hl40
      replace cT := cT hl40
      replace cM := cM hl40
      replace cW := cW hl40
      replace cS := cS hl40
      clear hbig lb hl40
      go_enter Tryd.func7, Tryd.ntmps7
      go_wp2_with (first
        | (go_at_call 19; first
          | (refine c1.mono ?_; clear c1; rintro e w1 ⟨rfl, f1⟩; have hF := hF.trans f1)
          | (refine (cZ _ (hI.keep hF) (hR.keep hF (by simp))).mono ?_; clear cZ; rintro e w4 ⟨p4, rfl, hp4, h4, f4⟩; have hF := hF.trans f4)
          | (refine (cCut _ (hI.keep hF) (hR.keep hF (by simp))).mono ?_; clear cCut; rintro e w5 ⟨rfl, f5⟩; have hF := hF.trans f5; have h4 := h4.keep f5 (by simp))
          | (refine (cLong _ (hI.keep hF) (hR.keep hF (by simp))).mono ?_; clear cLong; rintro e w6 ⟨rfl, f6⟩; have hF := hF.trans f6; have h4 := h4.keep f6 (by simp)))
        | (go_at_call 20; first
          | (refine (cT _ _ h3).mono ?_; clear h3; rintro e wS2 ⟨rfl, fs2⟩; have hF := hF.trans fs2)
          | (refine (cT _ _ h4).mono ?_; rintro e wS3 ⟨rfl, fs3⟩; have hF := hF.trans fs3; have h4 := h4.keep fs3 (by simp)))
        | (go_at_call 21; refine (cB _ _ (At.alloc_new _ _ _)).mono ?_; clear cB; rintro e wB ⟨rfl, fB⟩; have hF := hF.trans ((Fr.alloc _ _ _).trans fB))
        | (go_at_call 22; refine (newHasher_any _ (hI.keep hF) (hR.keep hF (by simp))).mono ?_; rintro e w2 ⟨rfl, h2, f2⟩; have hp2 := hF.size; have hF := hF.trans f2)
        | (go_at_call 23; refine (cW _ _ (hR.keep hF (by simp)) h2).mono ?_; clear h2; rintro e w3 ⟨rfl, h3, f3⟩; have hF := hF.new f3 (by simp; exact hp2))
        | (go_at_call 24; refine (cM _ _ (hR.keep hF (by simp)) h4).mono ?_; rintro e w7 ⟨rfl, f7⟩; have hF := hF.trans f7; have h4 := h4.keep f7 (by simp))
        | (go_at_call 10; refine (cS _ _ (hI.keep (hF.trans (Fr.alloc _ _ _))) (hR.keep (hF.trans (Fr.alloc [] _ _)) (by simp)) (At.alloc_new _ _ _)).mono ?_; rintro e w8 ⟨rfl, f8⟩; have hF := hF.trans ((Fr.alloc _ _ _).trans f8); have h4 := h4.keep ((Fr.alloc [] _ _).trans f8) (by simp))
        | (go_at_call 14; refine (known_any _ (hI.keep hF) (hR.keep hF (by simp))).mono ?_; rintro e wk ⟨rfl, fk⟩; have hF := hF.trans fk)
        | (go_at_call 17; refine (num2_any _ _).mono ?_; rintro e w3 ⟨rfl, rfl⟩)
        | fail)
      go_ret
      exact ⟨rfl, hF⟩
  | some x =>
    obtain ⟨H, rest, n⟩ := x
    obtain ⟨b1, b2, b3, b4, _⟩ := restP_back _ H rest n hR1.symm
    have hes : (⟨(stateOf H rest n).toArray⟩ : ByteArray) = state := by rw [b1]
    clear hR1 b1
    by_cases hbig : 2147483647 < text.size + 1
    · have lb : decide (2147483647 < text.size + 1) = true := by simpa using hbig
      simp only [lb] at cB
      clear hbig lb cZ cCut cLong cT cM cW cS
      go_enter Tryd.func7, Tryd.ntmps7
      go_wp2_with (first
        | (go_at_call 19; (refine c1.mono ?_; clear c1; rintro e w1 ⟨p, rfl, hp1, h1, f1⟩; have hF := hF.trans f1))
        | (go_at_call 20; (refine (state_any H rest n p (by omega) _ h1).mono ?_; clear h1; rintro e wS1 ⟨rfl, fs1⟩; have hF := hF.trans fs1))
        | (go_at_call 21; refine (cB _ _ (At.alloc_new _ _ _)).mono ?_; clear cB; rintro e wB ⟨rfl, fB⟩; have hF := hF.trans ((Fr.alloc _ _ _).trans fB))
        | (go_at_call 17; refine (num2_any _ _).mono ?_; rintro e w3 ⟨rfl, rfl⟩)
        | fail)
      go_ret
      exact ⟨rfl, hF⟩
    · have lb : decide (2147483647 < text.size + 1) = false := by simpa using hbig
      simp only [lb] at cB
      have hl40 : T.length ≤ 1099511627776 := by have := HT.out.2; omega
      replace cZ := cZ hl40
      replace cCut := cCut hl40
      replace cLong := cLong hl40
      replace cT := cT hl40
      replace cM := cM hl40
      replace cW := cW hl40
      replace cS := cS hl40
      clear hbig lb hl40
      go_enter Tryd.func7, Tryd.ntmps7
      go_wp2_with (first
        | (go_at_call 19; first
          | (refine c1.mono ?_; clear c1; rintro e w1 ⟨p, rfl, hp1, h1, f1⟩; have hF := hF.trans f1)
          | (refine (cZ _ (hI.keep hF) (hR.keep hF (by simp))).mono ?_; clear cZ; rintro e w4 ⟨p4, rfl, hp4, h4, f4⟩; have hF := hF.trans f4)
          | (refine (cCut _ (hI.keep hF) (hR.keep hF (by simp))).mono ?_; clear cCut; rintro e w5 ⟨rfl, f5⟩; have hF := hF.trans f5; have h4 := h4.keep f5 (by simp))
          | (refine (cLong _ (hI.keep hF) (hR.keep hF (by simp))).mono ?_; clear cLong; rintro e w6 ⟨rfl, f6⟩; have hF := hF.trans f6; have h4 := h4.keep f6 (by simp)))
        | (go_at_call 20; first
          | (refine (state_any H rest n p (by omega) _ h1).mono ?_; clear h1; rintro e wS1 ⟨rfl, fs1⟩; have hF := hF.trans fs1)
          | (refine (cT _ _ h3).mono ?_; clear h3; rintro e wS2 ⟨rfl, fs2⟩; have hF := hF.trans fs2)
          | (refine (cT _ _ h4).mono ?_; rintro e wS3 ⟨rfl, fs3⟩; have hF := hF.trans fs3; have h4 := h4.keep fs3 (by simp)))
        | (go_at_call 21; refine (cB _ _ (At.alloc_new _ _ _)).mono ?_; clear cB; rintro e wB ⟨rfl, fB⟩; have hF := hF.trans ((Fr.alloc _ _ _).trans fB))
        | (go_at_call 22; refine (newHasher_any _ (hI.keep hF) (hR.keep hF (by simp))).mono ?_; rintro e w2 ⟨rfl, h2, f2⟩; have hp2 := hF.size; have hF := hF.trans f2)
        | (go_at_call 23; refine (cW _ _ (hR.keep hF (by simp)) h2).mono ?_; clear h2; rintro e w3 ⟨rfl, h3, f3⟩; have hF := hF.new f3 (by simp; exact hp2))
        | (go_at_call 24; refine (cM _ _ (hR.keep hF (by simp)) h4).mono ?_; rintro e w7 ⟨rfl, f7⟩; have hF := hF.trans f7; have h4 := h4.keep f7 (by simp))
        | (go_at_call 10; refine (cS _ _ (hI.keep (hF.trans (Fr.alloc _ _ _))) (hR.keep (hF.trans (Fr.alloc [] _ _)) (by simp)) (At.alloc_new _ _ _)).mono ?_; rintro e w8 ⟨rfl, f8⟩; have hF := hF.trans ((Fr.alloc _ _ _).trans f8); have h4 := h4.keep ((Fr.alloc [] _ _).trans f8) (by simp))
        | (go_at_call 14; refine (known_any _ (hI.keep hF) (hR.keep hF (by simp))).mono ?_; rintro e wk ⟨rfl, fk⟩; have hF := hF.trans fk)
        | (go_at_call 17; refine (num2_any _ _).mono ?_; rintro e w3 ⟨rfl, rfl⟩)
        | fail)
      go_ret
      exact ⟨rfl, hF⟩
end Go.Proofs.YtkagmoaapampgaaDoor
