/- The law KdfCuts walked. -/
import Derived.Test.YtbpaknnnkmjgjaaDoorKdfMac
import Derived.Test.YtbpaknnnkmjgjaaDoorTextsK
namespace Go.Proofs.YtbpaknnnkmjgjaaDoor
open Go.RowKit Go.Lib Go.Joins Base
set_option linter.unusedVariables false
set_option linter.unusedSimpArgs false

theorem num3_any (c : Int) (w : World) : Calls Tryd.prog 21 #[.int .i64 c] w fun e w' => e = .returned (.int .i64 c) ∧ w = w' := by
  go_enter Tryd.func21, Tryd.ntmps21
  go_wp2
  go_ret
  exact ⟨rfl, rfl⟩
set_option maxRecDepth 100000 in
set_option maxHeartbeats 1000000 in
theorem texts_any (ps : List ByteArray) (ad : Option Addr) (cap : Nat) (hp16 : ps.length * 16 ≤ 140737488351232) (w : World) (hp : Texts w ad ps) :
    Calls Tryd.prog 12 #[.slice ad ps.length cap] w fun e w' => ∃ v, e = .returned v ∧ w'.ownsRow w.heap.size 9 1 v ps.length (tcells ps) ∧ Below w.heap.size w w' := by
  have hi5 : (Tryd.prog.info? 9).map (fun i => (i.zero, i.size, i.bytes)) = some (some (.string ⟨#[]⟩), 1, 16) := by kernel_rfl
  obtain ⟨iI, hiI, hz0, hz1, hz2⟩ := info_parts hi5
  go_enter Tryd.func12, Tryd.ntmps12
  go_wp2_with fail
  go_loopw [3, 4] (fun v3 v4 wr => ∃ i : Nat, i ≤ ps.length ∧ v4 = .int .i64 i ∧ wr.ownsRow w.heap.size 9 1 v3 i (tcells (ps.take i)) ∧ Below w.heap.size w wr) (fun _ v _ => ps.length - (intOf v).toNat)
  case atStart => exact ⟨0, by omega, rfl, World.ownsRow_nil _ _ _ _, Below.refl _ _⟩
  case round =>
    obtain ⟨i, hi, rfl, h0, hF⟩ := hrel
    have hsz := hF.size
    by_cases hl : i < ps.length
    · have l1 : (i : Int) < ps.length := by omega
      obtain ⟨g, o, rfl, hc⟩ := hp.keep (Fr.ofBelow hF) i ps[i] (by simp [hl])
      have ht : ps.take (i + 1) = ps.take i ++ [ps[i]] := by rw [List.take_add_one, List.getElem?_eq_getElem hl]; rfl
      have HT := Lib.hid ht
      clear ht
      generalize ps[i] = d at hc HT
      have A2 := At.alloc_new wr 9 #[Value.string d]
      go_wp2_with (first
        | (at_builtin; refine wpList_append_own _ rfl _ _ _ rfl w.heap.size 9 iI (.string ⟨#[]⟩) 1 16 Tryd.underlying22 hiI hz0 hz1 hz2 rfl (by decide) _ i _ rfl (World.ownsRow.alloc h0 _) ⟨wr.heap.size, 0, none⟩ 1 1 (tcells [d]) rfl rfl (by intro j u hj; rw [addr_add', Nat.zero_add]; exact (A2.cell j).trans hj) (tcells_one _) (by simp [maxLen]; omega) (by omega) (by simp; omega) ?_; intro v2 w2 o2 gr2 _)
        | fail)
      refine ⟨⟨i + 1, by omega, by simp, ?_, ?_⟩, by simp only [intOf]; omega⟩
      · rw [HT.out]
        simpa [tcells] using o2
      · refine (hF.alloc (by omega) _).grown gr2 (by simp; omega) ?_
        intro x hx
        exact (h0.lt x hx).1
    · obtain rfl : i = ps.length := by omega
      rw [List.take_of_length_le (Nat.le_refl _)] at h0
      go_wp2_with fail
      go_ret
      exact ⟨_, rfl, h0, hF⟩

theorem texts_any2 (ps : List ByteArray) (ad : Option Addr) (cap : Nat) (hp16 : ps.length * 16 ≤ 140737488351232) (w : World) (hp : Texts w ad ps) :
    Calls Tryd.prog 12 #[.slice ad ps.length cap] w fun e w' => ∃ ad' cap', e = .returned (.slice ad' ps.length cap') ∧ ((∃ g o, ad' = some ⟨g, o, none⟩) ∨ (ad' = none ∧ ps = [] ∧ cap' = 0)) ∧ Texts w' ad' ps ∧ Fr [] w w' := by
  refine (texts_any ps ad cap hp16 w hp).mono ?_
  rintro e w' ⟨v, rfl, o, b⟩
  rcases ownsRow_forms o with ⟨rfl, h1⟩ | ⟨g, c, rfl⟩
  · have hn : ps = [] := List.eq_nil_of_length_eq_zero h1
    subst hn
    exact ⟨none, 0, rfl, .inr ⟨rfl, rfl, rfl⟩, fun j s hj => by simp at hj, Fr.ofBelow b⟩
  · exact ⟨some ⟨g, 0, none⟩, c, rfl, .inl ⟨g, 0, rfl⟩, Texts.ofOwn o, Fr.ofBelow b⟩
set_option maxRecDepth 100000 in
set_option maxHeartbeats 1000000 in
theorem whole_any (ps : List ByteArray) (ad : Option Addr) (cap : Nat) (hj : (joinL ps).length ≤ 1099511627776) (hp63 : ps.length < 4611686018427387904) (w : World) (hp : Texts w ad ps) :
    Calls Tryd.prog 27 #[.slice ad ps.length cap] w fun e w' => ∃ s : ByteArray, s.data.toList = joinL ps ∧ e = .returned (.string s) ∧ Fr [] w w' := by
  go_enter Tryd.func27, Tryd.ntmps27
  go_wp2_with fail
  go_loopw [3, 4] (fun v3 v4 wr => ∃ (i : Nat) (so : ByteArray), i ≤ ps.length ∧ v4 = .int .i64 i ∧ v3 = .string so ∧ so.data.toList = joinL (ps.take i) ∧ wr = w) (fun _ v _ => ps.length - (intOf v).toNat)
  case atStart => exact ⟨0, ⟨#[]⟩, by omega, rfl, rfl, rfl, rfl⟩
  case round =>
    obtain ⟨i, so, hi, rfl, rfl, hso, rfl⟩ := hrel
    by_cases hl : i < ps.length
    · have l1 : (i : Int) < ps.length := by omega
      obtain ⟨g, o, rfl, hc⟩ := hp i ps[i] (by simp [hl])
      have ht := joinL_take ps i hl
      have hle := joinL_le ps (i + 1)
      have hsz : so.size = (joinL (ps.take i)).length := by rw [← hso]; simp
      generalize ps[i] = d at hc ht
      have hk : so.size + d.size ≤ 1099511627776 := by
        rw [ht, List.length_append] at hle
        have : d.data.toList.length = d.size := by simp
        omega
      have k1 : ¬ 9223372036854775807 < so.size + d.size := by omega
      have HT := Lib.hid (And.intro ht hso)
      clear ht hle hsz hso
      go_wp2_with fail
      refine ⟨⟨i + 1, so ++ d, by omega, by simp, rfl, ?_, by trivial⟩, by simp only [intOf]; omega⟩
      rw [HT.out.1, ByteArray.data_append]
      simp [HT.out.2]
    · obtain rfl : i = ps.length := by omega
      rw [List.take_of_length_le (Nat.le_refl _)] at hso
      have HS := Lib.hid hso
      clear hso
      go_wp2_with fail
      go_ret
      exact ⟨so, HS.out, rfl, Fr.refl _ _⟩

/-- What stands all along: the two Macs, and the list. -/
def KStand (w wr : World) (m p m2 p2 : Nat) (K J J2 : List UInt8) (ad : Option Addr) (ps : List ByteArray) : Prop := Fr [] w wr ∧ MacAt wr m p K J ∧ MacAt wr m2 p2 K J2 ∧ Texts wr ad ps
theorem KStand.keep {w wr w' : World} {m p m2 p2 : Nat} {K J J2 : List UInt8} {ad : Option Addr} {ps : List ByteArray} (h : KStand w wr m p m2 p2 K J J2 ad ps) (f : Fr [] wr w') : KStand w w' m p m2 p2 K J J2 ad ps :=
  ⟨h.1.trans f, h.2.1.keep f (by simp) (by simp), h.2.2.1.keep f (by simp) (by simp), h.2.2.2.keep f⟩
theorem MacAt.lt {w : World} {m p : Nat} {K T : List UInt8} (h : MacAt w m p K T) : m < w.heap.size ∧ p < w.heap.size := ⟨h.2.1.lt, h.2.2.lt⟩

set_option maxRecDepth 100000 in
set_option maxHeartbeats 4000000 in
theorem kdfCuts_law {w : World} (key : ByteArray) (hkey : key.size ≤ 140737488351232) (v : Value) (ps : List ByteArray) (hv : IsT w v ps) (hI : First w) (hR : Roots w) :
    Calls Tryd.prog 6 #[.string key, v] w fun e w' => e = .returned (.bool true) ∧ Fr [] w w' := by
  obtain ⟨ad, cap, rfl, hcap, hp, h16, hnone, hps⟩ := hv
  have hF := Fr.refl [] w
  have mk1 : True := trivial
  go_enter Tryd.func6, Tryd.ntmps6
  go_wp2_with (first
    | (go_at_call 19; clear mk1; refine (newMac_any key (by omega) _ (hI.keep hF) (hR.keep hF (by simp))).mono ?_; rintro e w1 ⟨m, p, rfl, hm, hpp, hM, f1⟩; have hF := hF.trans f1)
    | (go_at_call 19; refine (newMac_any key (by omega) _ (hI.keep hF) (hR.keep hF (by simp))).mono ?_; rintro e w2 ⟨m2, p2, rfl, hm2, hpp2, hM2, f2⟩; have hF2 := hF.trans f2)
    | fail)
  have hlt := hM.lt
  have hsz1 := hF.size
  have hS : KStand w w2 m p m2 p2 key.data.toList [] [] ad ps := ⟨hF2, hM.keep f2 (by simp) (by simp), hM2, hp.keep hF2⟩
  have n1 : m2 ≠ p := by omega
  have n2 : p2 ≠ p := by omega
  have n3 : m ≠ p2 := by omega
  have n4 : w.heap.size ≤ p2 := by omega
  have HN := Lib.hid (And.intro hps hnone)
  have h63 : ps.length < 4611686018427387904 := by omega
  have HC := Lib.hid h16
  clear hlt hM hM2 f1 f2 hF hF2 hm hm2 hpp2 hcap hnone hsz1 h16
  go_loopw [7, 8] (fun v7 v8 wr => ∃ i : Nat, i ≤ ps.length ∧ v8 = .int .i64 i ∧ v7 = .int .i64 ((joinL (ps.take i)).length : Nat) ∧ (joinL (ps.take i)).length ≤ 1099511627712 ∧ wr = w2) (fun _ v _ => ps.length - (intOf v).toNat)
  case atStart => exact ⟨0, by omega, rfl, rfl, by simp [joinL], rfl⟩
  case round =>
    obtain ⟨i, hi, rfl, rfl, hb, rfl⟩ := hrel
    by_cases hl : i < ps.length
    · have l1 : (i : Int) < ps.length := by omega
      obtain ⟨g, o, rfl, hc⟩ := hS.2.2.2 i ps[i] (by simp [hl])
      have ht := joinL_take ps i hl
      have hd := hps ps[i] (List.getElem_mem hl)
      have hjl : (joinL (ps.take (i + 1))).length = (joinL (ps.take i)).length + ps[i].size := by rw [ht]; simp
      generalize ps[i] = d at hc hd hjl
      generalize hq : (joinL (ps.take i)).length = q at hjl hb
      have w1 : IntKind.i64.wrap ((q : Int) + d.size) = ((q + d.size : Nat) : Int) := by rw [IntWalk.i64_in _ (by omega)]; omega
      by_cases hbig : 1099511627712 < q + d.size
      · have l2 : (1099511627712 : Int) < ((q + d.size : Nat) : Int) := by omega
        have HF := Lib.hid hS.1
        clear ht hjl hq hbig hS
        go_wp2_with fail
        go_ret
        exact ⟨rfl, HF.out⟩
      · have l2 : ¬ (1099511627712 : Int) < ((q + d.size : Nat) : Int) := by omega
        have HJ := Lib.hid (And.intro hjl hbig)
        clear ht hjl hq hbig
        go_wp2_with fail
        refine ⟨⟨i + 1, by omega, by simp, ?_, ?_, by trivial⟩, by simp only [intOf]; omega⟩
        · rw [HJ.out.1]; simp
        · have := HJ.out.1; have := HJ.out.2; omega
    · obtain rfl : i = ps.length := by omega
      rw [List.take_of_length_le (Nat.le_refl _)] at hb ⊢
      clear hps
      go_wp2_with fail
      go_loopw [9, 10] (fun v9 v10 wr' => ∃ (i : Nat) (so : ByteArray), i ≤ ps.length ∧ v10 = .int .i64 i ∧ v9 = .string so ∧ so.data.toList = joinL (ps.take i) ∧ KStand w wr' m p m2 p2 key.data.toList (joinL (ps.take i)) (joinL (ps.take i)) ad ps) (fun _ v _ => ps.length - (intOf v).toNat)
      case atStart => exact ⟨0, ⟨#[]⟩, by omega, rfl, rfl, rfl, hS⟩
      case round =>
        clear hS
        obtain ⟨i, so, hi, rfl, rfl, hso, hS⟩ := hrel
        by_cases hl : i < ps.length
        · have l1 : (i : Int) < ps.length := by omega
          obtain ⟨g, o, rfl, hc⟩ := hS.2.2.2 i ps[i] (by simp [hl])
          have hj := joinL_take ps i hl
          have hle := joinL_le ps (i + 1)
          rw [hj] at hle
          have hcell : ∀ w', Texts w' (some ⟨g, o, none⟩) ps → w'.cell? ⟨g, o + i, none⟩ = some (.string ps[i]) := by
            intro w' h
            obtain ⟨g', o', e, hc'⟩ := h i ps[i] (by simp [hl])
            injection e with e
            injection e with e1 e2
            subst e1 e2
            exact hc'
          generalize hd : ps[i] = d at hc hj hle hcell
          obtain ⟨J, hJ⟩ : ∃ J, J = joinL (ps.take i) := ⟨_, rfl⟩
          rw [← hJ] at hS hso hj hle
          have hsoS : so.size = J.length := by rw [← hso]; simp
          have hJl : J.length + d.size ≤ 1099511627712 := by
            have : (J ++ d.data.toList).length = J.length + d.size := by simp
            omega
          have hsod : (so ++ d).data.toList = J ++ d.data.toList := by rw [ByteArray.data_append]; simp [hso]
          obtain ⟨K, hK⟩ : ∃ K, K = key.data.toList := ⟨_, rfl⟩
          rw [← hK] at hS
          obtain ⟨J', hJ'⟩ : ∃ J', J' = J ++ d.data.toList := ⟨_, rfl⟩
          have hJl2 : J'.length = J.length + d.size := by rw [hJ']; simp
          have cW : ∀ w m p, Roots w → MacAt w m p K J → Calls Tryd.prog 22 #[.pointer (some ⟨m, 0, none⟩), .string d] w fun e w' => e = .returned (.int .i64 0) ∧ MacAt w' m p K J' ∧ Fr [p] w w' := fun w m p h1 h2 => by rw [hJ']; exact macWrite_any K J m p d hJl w h1 h2
          have cM : ∀ w m p, First w → Roots w → MacAt w m p K J' → Calls Tryd.prog 23 #[.pointer (some ⟨m, 0, none⟩)] w fun e w' => e = .returned (.string ⟨(hmacL K J').toArray⟩) ∧ Fr [] w w' := fun w m p h0 h1 h2 => macSum_any K J' m p (by omega) w h0 h1 h2
          have cH : ∀ w g, First w → Roots w → At w g 9 [.string (so ++ d)] → Calls Tryd.prog 13 #[.string key, .slice (some ⟨g, 0, none⟩) 1 1] w fun e w' => e = .returned (.string ⟨(hmacL K J').toArray⟩) ∧ Fr [] w w' := fun w g h1 h2 h3 => by
            have := hmac_one key (so ++ d) (by omega) (by rw [ByteArray.size_append]; omega) w g h1 h2 h3
            rw [hsod, ← hK, ← hJ'] at this
            exact this
          generalize (⟨(hmacL K J').toArray⟩ : ByteArray) = X1 at cM cH
          have k1 : ¬ 9223372036854775807 < so.size + d.size := by omega
          have HJ := Lib.hid (And.intro hj (And.intro hsod (And.intro hJ' hK)))
          have mk2 : True := trivial
          clear hsoS hJl hsod hJl2 hle hj hso hJ hJ' hd hb hK
          go_wp2_with (first
            | (go_at_call 22; clear mk2; refine (cW _ _ p (hR.keep hS.1 (by simp)) hS.2.1).mono ?_; rintro e w3 ⟨rfl, h3, f3⟩; have hF3 := hS.1.new f3 (by simp; exact hpp); have hS : KStand w w3 m p m2 p2 K J' J (some ⟨g, o, none⟩) ps := ⟨hF3, h3, hS.2.2.1.keep f3 (by simp; exact n1) (by simp; exact n2), hp.keep hF3⟩; have hc := hcell _ hS.2.2.2)
            | (go_at_call 22; refine (cW _ _ p2 (hR.keep hS.1 (by simp)) hS.2.2.1).mono ?_; rintro e w4 ⟨rfl, h4, f4⟩; have hF4 := hS.1.new f4 (by simp; exact n4); have hS : KStand w w4 m p m2 p2 K J' J' (some ⟨g, o, none⟩) ps := ⟨hF4, hS.2.1.keep f4 (by simp; exact n3) (by simp; exact fun h => n2 h.symm), h4, hp.keep hF4⟩; have hc := hcell _ hS.2.2.2)
            | (go_at_call 21; refine (num3_any _ _).mono ?_; rintro e w5 ⟨rfl, rfl⟩)
            | (go_at_call 23; refine (cM _ _ p (hI.keep hS.1) (hR.keep hS.1 (by simp)) hS.2.1).mono ?_; rintro e w6 ⟨rfl, f6⟩; have hS := hS.keep f6)
            | (go_at_call 13; refine (cH _ _ (hI.keep (hS.1.trans (Fr.alloc _ _ _))) (hR.keep (hS.1.trans (Fr.alloc [] _ _)) (by simp)) (At.alloc_new _ _ _)).mono ?_; rintro e w7 ⟨rfl, f7⟩; have hS := hS.keep ((Fr.alloc _ _ _).trans f7))
            | fail)
          have hj := HJ.out.1
          rw [← HJ.out.2.2.1] at hj
          refine ⟨⟨i + 1, so ++ d, by omega, by simp, rfl, by rw [hj, HJ.out.2.1, HJ.out.2.2.1], ?_⟩, by simp only [intOf]; omega⟩
          rw [hj, ← HJ.out.2.2.2]; exact hS
        · obtain rfl : i = ps.length := by omega
          rw [List.take_of_length_le (Nat.le_refl _)] at hS hso
          obtain ⟨hps, hnone⟩ := HN.out
          have h16 := HC.out
          obtain ⟨K, hK⟩ : ∃ K, K = key.data.toList := ⟨_, rfl⟩
          obtain ⟨J, hJ⟩ : ∃ J, J = joinL ps := ⟨_, rfl⟩
          rw [← hK, ← hJ] at hS
          rw [← hJ] at hb hso
          have cT := fun w' (h : Texts w' ad ps) => texts_any2 ps ad cap h16 w' h
          have cV := fun w' (h : Texts w' ad ps) => whole_any ps ad cap (by rw [← hJ]; omega) h63 w' h
          rw [← hJ] at cV
          have cL : ∀ w ad c, ((∃ g o, ad = some ⟨g, o, none⟩) ∨ (ad = none ∧ ps = [] ∧ c = 0)) → First w → Roots w → Texts w ad ps → Calls Tryd.prog 13 #[.string key, .slice ad ps.length c] w fun e w' => e = .returned (.string ⟨(hmacL K J).toArray⟩) ∧ Fr [] w w' := fun w ad c h0 h1 h2 h3 => by
            rw [hK, hJ]; exact hmac_any key (by omega) ps ad c h0 (by rw [← hJ]; omega) h16 w h1 h2 h3
          have cH : ∀ (s : ByteArray), s.data.toList = J → ∀ w g, First w → Roots w → At w g 9 [.string s] → Calls Tryd.prog 13 #[.string key, .slice (some ⟨g, 0, none⟩) 1 1] w fun e w' => e = .returned (.string ⟨(hmacL K J).toArray⟩) ∧ Fr [] w w' := fun s hs w g h1 h2 h3 => by
            have hsl : s.size = J.length := by rw [← hs]; simp
            have := hmac_one key s (by omega) (by omega) w g h1 h2 h3
            rw [hs, ← hK] at this
            exact this
          have cM : ∀ w m p, First w → Roots w → MacAt w m p K J → Calls Tryd.prog 23 #[.pointer (some ⟨m, 0, none⟩)] w fun e w' => e = .returned (.string ⟨(hmacL K J).toArray⟩) ∧ Fr [] w w' := fun w m p h0 h1 h2 => macSum_any K J m p hb w h0 h1 h2
          have hXl : (⟨(hmacL K J).toArray⟩ : ByteArray).size = 32 := by show (hmacL K J).toArray.size = 32; rw [List.size_toArray, hmacL_len]
          generalize (⟨(hmacL K J).toArray⟩ : ByteArray) = X1 at cL cH cM hXl
          have mk2 : True := trivial
          have mk3 : True := trivial
          clear hK hJ hb hso hps hnone h16
          go_wp2_with (first
            | (go_at_call 12; refine (cT _ hS.2.2.2).mono ?_; rintro e wt ⟨ad', cap', rfl, had', hT', ft⟩; have hS := hS.keep ft)
            | (go_at_call 13; clear mk2; refine (cL _ _ _ had' (hI.keep hS.1) (hR.keep hS.1 (by simp)) hT').mono ?_; rintro e w3 ⟨rfl, f3⟩; have hS := hS.keep f3)
            | (go_at_call 27; refine (cV _ hS.2.2.2).mono ?_; rintro e wv ⟨sv, hsv, rfl, fv⟩; have hS := hS.keep fv; have cH1 := cH sv hsv; clear hsv)
            | (go_at_call 13; refine (cH1 _ _ (hI.keep (hS.1.trans (Fr.alloc _ _ _))) (hR.keep (hS.1.trans (Fr.alloc [] _ _)) (by simp)) (At.alloc_new _ _ _)).mono ?_; rintro e w7 ⟨rfl, f7⟩; have hS := hS.keep ((Fr.alloc _ _ _).trans f7))
            | (go_at_call 23; clear mk3; refine (cM _ _ p (hI.keep hS.1) (hR.keep hS.1 (by simp)) hS.2.1).mono ?_; rintro e w6 ⟨rfl, f6⟩; have hS := hS.keep f6)
            | (go_at_call 23; refine (cM _ _ p2 (hI.keep hS.1) (hR.keep hS.1 (by simp)) hS.2.2.1).mono ?_; rintro e w8 ⟨rfl, f8⟩; have hS := hS.keep f8)
            | fail)
          go_ret
          exact ⟨rfl, hS.1⟩
end Go.Proofs.YtbpaknnnkmjgjaaDoor
