/- The law ShaCuts walked. -/
import Derived.Test.YtkagmoaapampgaaDoorLawShaStatesW
import Derived.Test.YtkagmoaapampgaaDoorMarked
import Derived.Test.YtkagmoaapampgaaDoorTexts
namespace Go.Proofs.YtkagmoaapampgaaDoor
open Go.RowKit Go.Lib Go.Joins Base
set_option linter.unusedVariables false
set_option linter.unusedSimpArgs false

theorem Texts.take {w : World} {ad : Option Addr} {ps qs : List ByteArray} (h : Texts w ad (ps ++ qs)) : Texts w ad ps := by
  intro j s hj
  have hlt : j < ps.length := by
    rcases Nat.lt_or_ge j ps.length with h' | h'
    · exact h'
    · rw [List.getElem?_eq_none h'] at hj; cases hj
  exact h j s (by rw [List.getElem?_append_left hlt]; exact hj)
/-- A sum that took a text. -/
def Took (w : World) (p : Nat) (J : List UInt8) : Prop := Hold w p (wordsOf firstL J) (restOf J) J.length
theorem Took.keep {w w' : World} {S : List Nat} {p : Nat} {J : List UInt8} (h : Took w p J) (f : Fr S w w') (hS : p ∉ S) : Took w' p J := Hold.keep h f hS
theorem took_new {w : World} {p : Nat} (h : Hold w p firstL [] 0) : Took w p [] := h
theorem took_write (J : List UInt8) (p : Nat) (d : ByteArray) (hn : J.length + d.size ≤ 1099511627776) (w : World) (hR : Roots w) (h : Took w p J) :
    Calls Tryd.prog 23 #[.pointer (some ⟨p, 0, none⟩), .string d] w fun e w' => e = .returned (.int .i64 0) ∧ Took w' p (J ++ d.data.toList) ∧ Fr [p] w w' := by
  have := write_ok _ _ _ p d hn w hR h
  rw [wordsOf_app, restOf_app, show J.length + d.size = (J ++ d.data.toList).length by simp] at this
  exact this
theorem took_sum (J : List UInt8) (p : Nat) (hn : J.length ≤ 1099511627776) (w : World) (hR : Roots w) (h : Took w p J) :
    Calls Tryd.prog 24 #[.pointer (some ⟨p, 0, none⟩)] w fun e w' => e = .returned (.string ⟨(shaL J).toArray⟩) ∧ Fr [] w w' := by
  have := hsum_any _ _ _ p (by omega) w hR h
  rw [sumOf_rest] at this
  exact this
theorem took_count (J : List UInt8) (p : Nat) (w : World) (h : Took w p J) :
    Calls Tryd.prog 25 #[.pointer (some ⟨p, 0, none⟩)] w fun e w' => e = .returned (.int .i64 (J.length : Nat)) ∧ Fr [] w w' := count_any _ _ _ p w h
/-- A running sum's text, of a sum that took a text. -/
def stateL (J : List UInt8) : List UInt8 := stateOf (wordsOf firstL J) (restOf J) J.length
theorem took_state (J : List UInt8) (p : Nat) (hn : J.length ≤ 1099511627776) (w : World) (h : Took w p J) :
    Calls Tryd.prog 20 #[.pointer (some ⟨p, 0, none⟩)] w fun e w' => e = .returned (.string ⟨(stateL J).toArray⟩) ∧ Fr [] w w' := state_any _ _ _ p (by omega) w h
theorem took_restore (J : List UInt8) (hn : J.length ≤ 1099511627776) (w : World) (hI : First w) (hR : Roots w) :
    Calls Tryd.prog 19 #[.string ⟨(stateL J).toArray⟩] w fun e w' => ∃ p, e = .returned (.tuple #[.pointer (some ⟨p, 0, none⟩), .int .i64 0]) ∧ w.heap.size ≤ p ∧ Took w' p J ∧ Fr [] w w' := by
  have h1 := (stateOf_parts (wordsOf firstL J) (restOf J) J.length (wordsOf_len _ _ rfl)).2.2.2
  have := restore_any ⟨(stateL J).toArray⟩ (by show (stateL J).toArray.size ≤ _; rw [List.size_toArray]; unfold stateL; rw [h1, restOf_len]; omega) w hI hR
  rw [show (⟨(stateL J).toArray⟩ : ByteArray).data.toList = stateL J from rfl] at this
  have hs : restP (stateL J) = some (wordsOf firstL J, restOf J, J.length) := restP_state _ _ _ (wordsOf_len _ _ rfl) (restOf_len J).symm hn (fun h => wordsOf_first J h)
  rw [hs] at this
  exact this
theorem sum_one (s : ByteArray) (hs : s.size ≤ 1099511627776) (w : World) (g : Nat) (hI : First w) (hR : Roots w) (h : At w g 9 [.string s]) :
    Calls Tryd.prog 10 #[.slice (some ⟨g, 0, none⟩) 1 1] w fun e w' => e = .returned (.string ⟨(shaL s.data.toList).toArray⟩) ∧ Fr [] w w' := by
  have hj : joinL [s] = s.data.toList := by simp [joinL]
  have := sum_any [s] (some ⟨g, 0, none⟩) 1 (by rw [hj]; simp; omega) (by simp) w hI hR (Texts.ofAt h)
  rw [hj] at this
  exact this

/-- What stands all along: the two sums, and the list that was handed in. -/
def Stand (w wr : World) (p p2 : Nat) (J K : List UInt8) (ad : Option Addr) (ps : List ByteArray) : Prop := Fr [] w wr ∧ Took wr p J ∧ Took wr p2 K ∧ Texts wr ad ps
theorem Stand.keep {w wr w' : World} {p p2 : Nat} {J K : List UInt8} {ad : Option Addr} {ps : List ByteArray} (h : Stand w wr p p2 J K ad ps) (f : Fr [] wr w') : Stand w w' p p2 J K ad ps :=
  ⟨h.1.trans f, h.2.1.keep f (by simp), h.2.2.1.keep f (by simp), h.2.2.2.keep f⟩
theorem Took.lt {w : World} {p : Nat} {J : List UInt8} (h : Took w p J) : p < w.heap.size := by
  obtain ⟨_, _, _, _, _, _, hA⟩ := h
  exact hA.lt

set_option maxRecDepth 100000 in
set_option maxHeartbeats 4000000 in
theorem cuts_law {w : World} (v : Value) (ps : List ByteArray) {X : Prop} (hv : IsT w v ps ∧ X) (hI : First w) (hR : Roots w) :
    Calls Tryd.prog 8 #[v] w fun e w' => e = .returned (.bool true) ∧ Fr [] w w' := by
  obtain ⟨⟨ad, cap, rfl, hcap, hp, h16⟩, _⟩ := hv
  have hrl := hR.lt
  have cB := fun w' (f : Fr [] w w') => beyond_any ps ad cap (by omega) w' (hp.keep f)
  have hF := Fr.refl [] w
  by_cases hbig : 2147483647 < bulkL ps
  · have lb : decide (2147483647 < bulkL ps) = true := by simpa using hbig
    simp only [lb] at cB
    clear hbig lb
    go_enter Tryd.func8, Tryd.ntmps8
    go_wp2_with (first
      | (go_at_call 14; refine (known_any _ (hI.keep hF) (hR.keep hF (by simp))).mono ?_; rintro e wk ⟨rfl, fk⟩; have hF := hF.trans fk)
      | (go_at_call 21; refine (cB _ hF).mono ?_; clear cB; rintro e wB ⟨rfl, fB⟩; have hF := hF.trans fB)
      | fail)
    go_ret
    exact ⟨rfl, hF⟩
  · have lb : decide (2147483647 < bulkL ps) = false := by simpa using hbig
    simp only [lb] at cB
    have hbk := joinL_bulk ps
    have hb1 : (joinL ps).length ≤ 2147483647 := by omega
    have hb2 : ps.length ≤ 2147483647 := by omega
    have mk1 : True := trivial
    clear hbig lb hbk
    go_enter Tryd.func8, Tryd.ntmps8
    go_wp2_with (first
      | (go_at_call 14; refine (known_any _ (hI.keep hF) (hR.keep hF (by simp))).mono ?_; rintro e wk ⟨rfl, fk⟩; have hF := hF.trans fk)
      | (go_at_call 21; refine (cB _ hF).mono ?_; clear cB; rintro e wB ⟨rfl, fB⟩; have hF := hF.trans fB)
      | (go_at_call 22; clear mk1; refine (newHasher_any _ (hI.keep hF) (hR.keep hF (by simp))).mono ?_; rintro e wa ⟨rfl, ha, fa⟩; have hpa := hF.size; have hF := hF.trans fa)
      | (go_at_call 22; refine (newHasher_any _ (hI.keep hF) (hR.keep hF (by simp))).mono ?_; rintro e wb ⟨rfl, hb, fb⟩; have hpb := hF.size; have hF := hF.trans fb)
      | fail)
    have ha1 : Took wa wB.heap.size [] := ha
    have hlt := ha1.lt
    have hS : Stand w wb wB.heap.size wa.heap.size [] [] ad ps := ⟨hF, ha1.keep fb (by simp), hb, hp.keep hF⟩
    clear ha ha1 hb fa fb hF
    generalize wB.heap.size = p at hS hpa hlt ⊢
    generalize wa.heap.size = p2 at hS hpb hlt ⊢
    have hne : p ≠ p2 := by omega
    clear hlt
    go_loopw [4, 6, 7] (fun v4 v6 v7 wr => ∃ (i p : Nat) (so : ByteArray), i ≤ ps.length ∧ v7 = .int .i64 i ∧ v6 = .string so ∧ so.data.toList = joinL (ps.take i) ∧ v4 = .pointer (some ⟨p, 0, none⟩) ∧ w.heap.size ≤ p ∧ p ≠ p2 ∧ Stand w wr p p2 (joinL (ps.take i)) (joinL (ps.take i)) ad ps) (fun _ _ v _ => ps.length - (intOf v).toNat)
    case atStart => exact ⟨0, p, ⟨#[]⟩, by omega, rfl, rfl, rfl, rfl, hpa, hne, hS⟩
    case round =>
      clear hS hne hpa
      obtain ⟨i, p, so, hi, rfl, rfl, hso, rfl, hpa, hne, hS⟩ := hrel
      by_cases hl : i < ps.length
      · have l1 : (i : Int) < ps.length := by omega
        obtain ⟨g, o, rfl, hc⟩ := hS.2.2.2 i ps[i] (by simp [hl])
        have hj := joinL_take ps i hl
        have hle := joinL_le ps (i + 1)
        rw [hj] at hle
        have hcell : ∀ w', Texts w' (some ⟨g, o, none⟩) ps → w'.cell? ⟨g, o + i, none⟩ = some (.string ps[i]) := by
          intro w' h
          obtain ⟨g', o', e, hc'⟩ := h i ps[i] (by simp [hl])
          injection e with e
          injection e with e1 e2
          subst e1 e2
          exact hc'
        generalize hd : ps[i] = d at hc hj hle hcell
        obtain ⟨J, hJ⟩ : ∃ J, J = joinL (ps.take i) := ⟨_, rfl⟩
        rw [← hJ] at hS hso hj hle
        have hsoS : so.size = J.length := by rw [← hso]; simp
        have hJl : J.length + d.size ≤ 2147483647 := by
          have : (J ++ d.data.toList).length = J.length + d.size := by simp
          omega
        have hsod : (so ++ d).data.toList = J ++ d.data.toList := by rw [ByteArray.data_append]; simp [hso]
        have cW : ∀ w p, Roots w → Took w p J → Calls Tryd.prog 23 #[.pointer (some ⟨p, 0, none⟩), .string d] w fun e w' => e = .returned (.int .i64 0) ∧ Took w' p (J ++ d.data.toList) ∧ Fr [p] w w' := fun w p h1 h2 => took_write J p d (by omega) w h1 h2
        have hJl2 : (J ++ d.data.toList).length = J.length + d.size := by simp
        obtain ⟨J', hJ'⟩ : ∃ J', J' = J ++ d.data.toList := ⟨_, rfl⟩
        rw [← hJ'] at cW hsod hJl2
        have cM : ∀ w p, Roots w → Took w p J' → Calls Tryd.prog 24 #[.pointer (some ⟨p, 0, none⟩)] w fun e w' => e = .returned (.string ⟨(shaL J').toArray⟩) ∧ Fr [] w w' := fun w p h1 h2 => took_sum J' p (by omega) w h1 h2
        have cS : ∀ w g, First w → Roots w → At w g 9 [.string (so ++ d)] → Calls Tryd.prog 10 #[.slice (some ⟨g, 0, none⟩) 1 1] w fun e w' => e = .returned (.string ⟨(shaL J').toArray⟩) ∧ Fr [] w w' := fun w g h1 h2 h3 => by
          have := sum_one (so ++ d) (by rw [ByteArray.size_append]; omega) w g h1 h2 h3
          rw [hsod] at this
          exact this
        have cC : ∀ w p, Took w p J' → Calls Tryd.prog 25 #[.pointer (some ⟨p, 0, none⟩)] w fun e w' => e = .returned (.int .i64 ((so.size : Int) + d.size)) ∧ Fr [] w w' := fun w p h => by
          have := took_count J' p w h
          rw [hJl2, ← hsoS] at this
          simpa using this
        have cT : ∀ w p, Took w p J' → Calls Tryd.prog 20 #[.pointer (some ⟨p, 0, none⟩)] w fun e w' => e = .returned (.string ⟨(stateL J').toArray⟩) ∧ Fr [] w w' := fun w p h => took_state J' p (by omega) w h
        have cR : ∀ w, First w → Roots w → Calls Tryd.prog 19 #[.string ⟨(stateL J').toArray⟩] w fun e w' => ∃ p, e = .returned (.tuple #[.pointer (some ⟨p, 0, none⟩), .int .i64 0]) ∧ w.heap.size ≤ p ∧ Took w' p J' ∧ Fr [] w w' := fun w h1 h2 => took_restore J' (by omega) w h1 h2
        generalize (⟨(shaL J').toArray⟩ : ByteArray) = X1 at cM cS
        generalize (⟨(stateL J').toArray⟩ : ByteArray) = X2 at cT cR
        have k1 : ¬ 9223372036854775807 < so.size + d.size := by omega
        have HJ := Lib.hid (And.intro hj (And.intro hsod hJ'))
        have mk1 : True := trivial
        clear hsoS hJl hsod hJl2 hle hj hso hJ hJ' hd
        go_wp2_with (first
          | (go_at_call 23; clear mk1; refine (cW _ _ (hR.keep hS.1 (by simp)) hS.2.1).mono ?_; rintro e w3 ⟨rfl, h3, f3⟩; have hF3 := hS.1.new f3 (by simp; exact hpa); have hS : Stand w w3 p p2 J' J (some ⟨g, o, none⟩) ps := ⟨hF3, h3, hS.2.2.1.keep f3 (by simp; exact fun h => hne h.symm), hp.keep hF3⟩; have hc := hcell _ hS.2.2.2)
          | (go_at_call 23; refine (cW _ _ (hR.keep hS.1 (by simp)) hS.2.2.1).mono ?_; rintro e w4 ⟨rfl, h4, f4⟩; have hF4 := hS.1.new f4 (by simp; exact hpb); have hS : Stand w w4 p p2 J' J' (some ⟨g, o, none⟩) ps := ⟨hF4, hS.2.1.keep f4 (by simp; exact hne), h4, hp.keep hF4⟩; have hc := hcell _ hS.2.2.2)
          | (go_at_call 17; refine (num2_any _ _).mono ?_; rintro e w5 ⟨rfl, rfl⟩)
          | (go_at_call 24; refine (cM _ _ (hR.keep hS.1 (by simp)) hS.2.1).mono ?_; rintro e w6 ⟨rfl, f6⟩; have hS := hS.keep f6)
          | (go_at_call 10; refine (cS _ _ (hI.keep (hS.1.trans (Fr.alloc _ _ _))) (hR.keep (hS.1.trans (Fr.alloc [] _ _)) (by simp)) (At.alloc_new _ _ _)).mono ?_; rintro e w7 ⟨rfl, f7⟩; have hS := hS.keep ((Fr.alloc _ _ _).trans f7))
          | (go_at_call 20; refine (cT _ _ hS.2.1).mono ?_; rintro e w8 ⟨rfl, f8⟩; have hS := hS.keep f8)
          | (go_at_call 19; refine (cR _ (hI.keep hS.1) (hR.keep hS.1 (by simp))).mono ?_; rintro e w9 ⟨p', rfl, hp9, h9, f9⟩; have hp' : w.heap.size ≤ p' := Nat.le_trans hS.1.size hp9; have hne' : p' ≠ p2 := Nat.ne_of_gt (Nat.lt_of_lt_of_le hS.2.2.1.lt hp9); have hS : Stand w w9 p' p2 J' J' (some ⟨g, o, none⟩) ps := ⟨hS.1.trans f9, h9, hS.2.2.1.keep f9 (by simp), hS.2.2.2.keep f9⟩)
          | (go_at_call 25; refine (cC _ _ hS.2.1).mono ?_; rintro e w10 ⟨rfl, f10⟩; have hS := hS.keep f10)
          | fail)
        have hj := HJ.out.1
        rw [← HJ.out.2.2] at hj
        refine ⟨⟨i + 1, p', so ++ d, by omega, by simp, rfl, by rw [hj]; exact HJ.out.2.1, rfl, hp', hne', by rw [hj]; exact hS⟩, by simp only [intOf]; omega⟩
      · obtain rfl : i = ps.length := by omega
        rw [List.take_of_length_le (Nat.le_refl _)] at hS hso
        obtain ⟨J, hJ⟩ : ∃ J, J = joinL ps := ⟨_, rfl⟩
        rw [← hJ] at hS hso hb1
        have hsoS : so.size = J.length := by rw [← hso]; simp
        have cM : ∀ w p, Roots w → Took w p J → Calls Tryd.prog 24 #[.pointer (some ⟨p, 0, none⟩)] w fun e w' => e = .returned (.string ⟨(shaL J).toArray⟩) ∧ Fr [] w w' := fun w p h1 h2 => took_sum J p (by omega) w h1 h2
        have cS : ∀ w g, First w → Roots w → At w g 9 [.string so] → Calls Tryd.prog 10 #[.slice (some ⟨g, 0, none⟩) 1 1] w fun e w' => e = .returned (.string ⟨(shaL J).toArray⟩) ∧ Fr [] w w' := fun w g h1 h2 h3 => by
          have := sum_one so (by omega) w g h1 h2 h3
          rw [hso] at this
          exact this
        have cC : ∀ w p, Took w p J → Calls Tryd.prog 25 #[.pointer (some ⟨p, 0, none⟩)] w fun e w' => e = .returned (.int .i64 (so.size : Int)) ∧ Fr [] w w' := fun w p h => by
          have := took_count J p w h
          rw [← hsoS] at this
          exact this
        have cL : ∀ w g c, First w → Roots w → Texts w (some ⟨g, 0, none⟩) ps → Calls Tryd.prog 10 #[.slice (some ⟨g, 0, none⟩) ps.length c] w fun e w' => e = .returned (.string ⟨(shaL J).toArray⟩) ∧ Fr [] w w' := fun w g c h1 h2 h3 => by
          rw [hJ]
          exact sum_any ps _ c (by rw [← hJ]; omega) (by omega) w h1 h2 h3
        have hX : (⟨(shaL J).toArray⟩ : ByteArray).size = 32 := by show (shaL J).toArray.size = 32; rw [List.size_toArray, shaL_len]
        generalize (⟨(shaL J).toArray⟩ : ByteArray) = X1 at cM cS cL hX
        have cMk := fun w' (h : Texts w' ad ps) => marked_any ps ad cap (by omega) w' h
        have mk2 : True := trivial
        clear hJ hso hsoS
        go_wp2_with (first
          | (go_at_call 9; refine (cMk _ hS.2.2.2).mono ?_; rintro e wm ⟨gm, cm, rfl, om, bm⟩; have hcm := own_cap om; have hcm1 : (ps.length : Int) + 3 ≤ cm := (by omega); have hcm2 : (ps.length : Int) ≤ cm := (by omega); have hTm : Texts wm (some ⟨gm, 0, none⟩) ps := (Texts.ofOwn om).take; have hS := hS.keep (Fr.ofBelow bm))
          | (go_at_call 24; first
            | (clear mk2; refine (cM _ _ (hR.keep hS.1 (by simp)) hS.2.1).mono ?_; rintro e w6 ⟨rfl, f6⟩; have hS := hS.keep f6; have hTm := hTm.keep f6)
            | (refine (cM _ _ (hR.keep hS.1 (by simp)) hS.2.2.1).mono ?_; rintro e w6 ⟨rfl, f6⟩; have hS := hS.keep f6; have hTm := hTm.keep f6))
          | (go_at_call 10; first
            | (refine (cS _ _ (hI.keep (hS.1.trans (Fr.alloc _ _ _))) (hR.keep (hS.1.trans (Fr.alloc [] _ _)) (by simp)) (At.alloc_new _ _ _)).mono ?_; clear cS; rintro e w7 ⟨rfl, f7⟩; have hS := hS.keep ((Fr.alloc _ _ _).trans f7); have hTm := hTm.keep ((Fr.alloc _ _ _).trans f7))
            | (refine (cL _ _ _ (hI.keep hS.1) (hR.keep hS.1 (by simp)) hTm).mono ?_; rintro e w8 ⟨rfl, f8⟩; have hS := hS.keep f8))
          | (go_at_call 25; refine (cC _ _ hS.2.2.1).mono ?_; rintro e w10 ⟨rfl, f10⟩; have hS := hS.keep f10; have hTm := hTm.keep f10)
          | fail)
        go_ret
        exact ⟨rfl, hS.1⟩
end Go.Proofs.YtkagmoaapampgaaDoor
