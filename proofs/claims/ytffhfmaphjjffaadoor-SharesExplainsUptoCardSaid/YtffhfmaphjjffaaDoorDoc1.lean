/- What the document says of one text and of many. The document's inverse, and what it says of many texts. The document's polynomials: one scaled, the points of shares. The document's points of shares. The document's polynomial through points. -/
import Derived.Test.YtffhfmaphjjffaaDoorJnTogP
import Derived.Test.YtffhfmaphjjffaaDoorSplD
import Derived.Test.YtffhfmaphjjffaaDoorRef2E
import Derived.Test.YtffhfmaphjjffaaDoorUntil
namespace Go.Proofs.YtffhfmaphjjffaaDoor
open Go.RowKit Go.Lib Go.Joins Base Gf
set_option linter.unusedVariables false
set_option linter.unusedSimpArgs false

/-- A text of the right size: its parts. -/
theorem doc_parts (s : ByteArray) (h1 : s.size = 51) (h2 : s.data.toList.getD 0 0 = 83) : ∃ (B E S : ByteArray) (x k : UInt8) (_ : 0 < s.size) (_ : 1 < s.size) (_ : 2 < s.size), s[0] = 83 ∧ s[1] = x ∧ s[2] = k ∧ s.data.toList.getD 1 0 = x ∧ s.data.toList.getD 2 0 = k ∧ s.extract 0 43 = B ∧ s.extract 43 51 = E ∧ B.size = 43 ∧ E.size = 8 ∧ S.size = 32 ∧
    (∀ w, Powers w → RefRoots w → Calls Tryd.prog 47 #[.string B] w fun e w' => e = .returned (.string S) ∧ Fr [] w w') ∧ ((S.extract 0 8 = E) ↔ (shaL (s.data.toList.take 43)).take 8 = s.data.toList.drop 43) := by
  have es : s = ⟨s.data.toList.toArray⟩ := by simp
  have hl : s.data.toList.length = 51 := by simpa using h1
  have e1 : s.extract 0 43 = ⟨(s.data.toList.take 43).toArray⟩ := by conv => lhs; rw [es, str_take]
  have e2 : s.extract 43 51 = ⟨(s.data.toList.drop 43).toArray⟩ := by conv => lhs; rw [es, str_mid _ _ _ (by omega), List.take_of_length_le (by simp; omega)]
  refine ⟨s.extract 0 43, s.extract 43 51, ⟨(shaL (s.data.toList.take 43)).toArray⟩, _, _, by omega, by omega, by omega, by rw [sget rfl (by omega), h2], sget rfl (by omega), sget rfl (by omega), rfl, rfl, rfl, rfl, ?_, ?_, ?_, fun w hP hQ => ?_, ?_⟩
  · rw [ByteArray.size_extract]; omega
  · rw [ByteArray.size_extract]; omega
  · show (shaL _).toArray.size = 32; rw [List.size_toArray, shaL_len]
  · have := rsum_any (s.extract 0 43) (by rw [ByteArray.size_extract]; omega) w hP hQ
    rw [show (s.extract 0 43).data.toList = s.data.toList.take 43 by rw [e1]] at this
    exact this
  · rw [str_take, e2]
    constructor
    · intro h
      have := congrArg (fun b : ByteArray => b.data.toList) h
      simpa using this
    · intro h; rw [h]
set_option maxRecDepth 100000 in
set_option maxHeartbeats 4000000 in
theorem ris_any (s : ByteArray) (w : World) (hP : Powers w) (hQ : RefRoots w) :
    Calls Tryd.prog 49 #[.string s] w fun e w' => e = .returned (.int .i64 (isE s.data.toList)) ∧ Fr [] w w' := by
  have hl : s.data.toList.length = s.size := by simp
  by_cases h1 : s.size = 51 ∧ s.data.toList.getD 0 0 = 83
  · obtain ⟨B, E, S, x, k, i0, i1, i2, g0, g1, g2, gx, gk, eB, eE, hB, hE, hS, cS, hiff⟩ := doc_parts s h1.1 h1.2
    have b0 : ((s.size : Int) != 51) = false := by simp; omega
    have h51 := h1.1
    by_cases h3 : (shaL (s.data.toList.take 43)).take 8 = s.data.toList.drop 43
    · have b2 := str_eq (hiff.2 h3)
      have hc : ((x.toNat : Int) < 1 ∧ isE s.data.toList = 72 ∨ ¬ (x.toNat : Int) < 1 ∧ 16 < (x.toNat : Int) ∧ isE s.data.toList = 72 ∨ ¬ (x.toNat : Int) < 1 ∧ ¬ 16 < (x.toNat : Int) ∧ (k.toNat : Int) < 1 ∧ isE s.data.toList = 72 ∨ ¬ (x.toNat : Int) < 1 ∧ ¬ 16 < (x.toNat : Int) ∧ ¬ (k.toNat : Int) < 1 ∧ 16 < (k.toNat : Int) ∧ isE s.data.toList = 72) ∨ ¬ (x.toNat : Int) < 1 ∧ ¬ 16 < (x.toNat : Int) ∧ ¬ (k.toNat : Int) < 1 ∧ ¬ 16 < (k.toNat : Int) ∧ isE s.data.toList = 0 := by
        by_cases h4 : 1 ≤ x.toNat ∧ x.toNat ≤ 16 ∧ 1 ≤ k.toNat ∧ k.toNat ≤ 16
        · right
          have e : isE s.data.toList = 0 := by unfold isE; rw [if_pos ⟨by omega, h1.2⟩, if_pos h3, gx, gk, if_pos h4]
          refine ⟨by omega, by omega, by omega, by omega, e⟩
        · left
          have e : isE s.data.toList = 72 := by unfold isE; rw [if_pos ⟨by omega, h1.2⟩, if_pos h3, gx, gk, if_neg h4]
          rw [e]; omega
      obtain ⟨V, hV⟩ : ∃ V, V = isE s.data.toList := ⟨_, rfl⟩
      rw [← hV] at hc ⊢
      clear h1 h3 hiff gx gk hl hV
      rcases hc with (⟨c1, rfl⟩ | ⟨c1, c2, rfl⟩ | ⟨c1, c2, c3, rfl⟩ | ⟨c1, c2, c3, c4, rfl⟩) | ⟨c1, c2, c3, c4, rfl⟩ <;>
      · go_enter Tryd.func49, Tryd.ntmps49
        go_wp2_with fail
        refine wp_region_until (fun _ => True) (fun _ => True) 1000 (by rfl) ?_
        have s0 : True := trivial
        refine until_s0 0 (v := ?_) rfl (by kernel_rfl) (fun _ _ _ h => h) (Or.inl ⟨by rfl, ?_⟩) (by assumption) (fun h => by first | assumption | exact absurd (h : true = false) (by decide)) ?_
        rotate_left
        · intro w hSw; (try dsimp only at hSw); (try go_simp); (try with_reducible rfl)
        try simp only [Act.put, List.setIfInBounds_toArray, List.set_cons_zero, List.set_cons_succ]
        refine until_s0 1 (v := ?_) rfl (by kernel_rfl) (fun _ _ _ h => h) (Or.inl ⟨by rfl, ?_⟩) (by assumption) (fun h => by first | assumption | exact absurd (h : true = false) (by decide)) ?_
        rotate_left
        · intro w hSw; (try dsimp only at hSw); (try go_simp); (try with_reducible rfl)
        try simp only [Act.put, List.setIfInBounds_toArray, List.set_cons_zero, List.set_cons_succ]
        refine until_s0 4 (v := ?_) rfl (by kernel_rfl) (fun _ _ _ h => h) (Or.inl ⟨by rfl, ?_⟩) (by assumption) (fun h => by first | assumption | exact absurd (h : true = false) (by decide)) ?_
        rotate_left
        · intro w hSw; (try dsimp only at hSw); (try go_simp); (try with_reducible rfl)
        try simp only [Act.put, List.setIfInBounds_toArray, List.set_cons_zero, List.set_cons_succ]
        refine until_s0 5 (v := ?_) rfl (by kernel_rfl) (fun _ _ _ h => h) (Or.inl ⟨by rfl, ?_⟩) (by assumption) (fun h => by first | assumption | exact absurd (h : true = false) (by decide)) ?_
        rotate_left
        · intro w hSw; (try dsimp only at hSw); (try go_simp); (try with_reducible rfl)
        try simp only [Act.put, List.setIfInBounds_toArray, List.set_cons_zero, List.set_cons_succ]
        refine until_sole 2 rfl (by kernel_rfl) (by rfl) ?_
        intro K' hK
        go_simp
        go_at_call 47
        refine (cS _ (hP.keep (Fr.drew [] _)) (hQ.keep (Fr.drew [] _))).mono ?_
        rintro _ w5 ⟨rfl, f5⟩
        go_wp2_with fail
        refine hK _ _ trivial (fun _ => trivial) ?_
        clear hK cS
        refine until_s0 3 (v := ?_) rfl (by kernel_rfl) (fun _ _ _ h => h) (Or.inl ⟨by rfl, ?_⟩) (by assumption) (fun h => by first | assumption | exact absurd (h : true = false) (by decide)) ?_
        rotate_left
        · intro w hSw; (try dsimp only at hSw); (try go_simp); (try with_reducible rfl)
        try simp only [Act.put, List.setIfInBounds_toArray, List.set_cons_zero, List.set_cons_succ]
        refine until_s0 6 (v := ?_) rfl (by kernel_rfl) (fun _ _ _ h => h) (Or.inl ⟨by rfl, ?_⟩) (by assumption) (fun h => by first | assumption | exact absurd (h : true = false) (by decide)) ?_
        rotate_left
        · intro w hSw; (try dsimp only at hSw); (try go_simp); (try with_reducible rfl)
        try simp only [Act.put, List.setIfInBounds_toArray, List.set_cons_zero, List.set_cons_succ]
        refine until_done (by kernel_rfl) ?_ _
        go_wp2_with fail
        go_ret
        exact ⟨rfl, (Fr.drew [] _).trans f5⟩
    · have b2 := str_neq (fun e => h3 (hiff.1 e) : S.extract 0 8 ≠ E)
      have e : isE s.data.toList = 71 := by unfold isE; rw [if_pos ⟨by omega, h1.2⟩, if_neg h3]
      rw [e]
      clear h1 h3 hiff gx gk hl e
      go_enter Tryd.func49, Tryd.ntmps49
      go_wp2_with fail
      refine wp_region_until (fun _ => True) (fun _ => True) 1000 (by rfl) ?_
      have s0 : True := trivial
      refine until_s0 0 (v := ?_) rfl (by kernel_rfl) (fun _ _ _ h => h) (Or.inl ⟨by rfl, ?_⟩) (by assumption) (fun h => by first | assumption | exact absurd (h : true = false) (by decide)) ?_
      rotate_left
      · intro w hSw; (try dsimp only at hSw); (try go_simp); (try with_reducible rfl)
      try simp only [Act.put, List.setIfInBounds_toArray, List.set_cons_zero, List.set_cons_succ]
      refine until_s0 1 (v := ?_) rfl (by kernel_rfl) (fun _ _ _ h => h) (Or.inl ⟨by rfl, ?_⟩) (by assumption) (fun h => by first | assumption | exact absurd (h : true = false) (by decide)) ?_
      rotate_left
      · intro w hSw; (try dsimp only at hSw); (try go_simp); (try with_reducible rfl)
      try simp only [Act.put, List.setIfInBounds_toArray, List.set_cons_zero, List.set_cons_succ]
      refine until_s0 4 (v := ?_) rfl (by kernel_rfl) (fun _ _ _ h => h) (Or.inl ⟨by rfl, ?_⟩) (by assumption) (fun h => by first | assumption | exact absurd (h : true = false) (by decide)) ?_
      rotate_left
      · intro w hSw; (try dsimp only at hSw); (try go_simp); (try with_reducible rfl)
      try simp only [Act.put, List.setIfInBounds_toArray, List.set_cons_zero, List.set_cons_succ]
      refine until_s0 5 (v := ?_) rfl (by kernel_rfl) (fun _ _ _ h => h) (Or.inl ⟨by rfl, ?_⟩) (by assumption) (fun h => by first | assumption | exact absurd (h : true = false) (by decide)) ?_
      rotate_left
      · intro w hSw; (try dsimp only at hSw); (try go_simp); (try with_reducible rfl)
      try simp only [Act.put, List.setIfInBounds_toArray, List.set_cons_zero, List.set_cons_succ]
      refine until_sole 2 rfl (by kernel_rfl) (by rfl) ?_
      intro K' hK
      go_simp
      go_at_call 47
      refine (cS _ (hP.keep (Fr.drew [] _)) (hQ.keep (Fr.drew [] _))).mono ?_
      rintro _ w5 ⟨rfl, f5⟩
      go_wp2_with fail
      refine hK _ _ trivial (fun _ => trivial) ?_
      clear hK cS
      refine until_s0 3 (v := ?_) rfl (by kernel_rfl) (fun _ _ _ h => h) (Or.inl ⟨by rfl, ?_⟩) (by assumption) (fun h => by first | assumption | exact absurd (h : true = false) (by decide)) ?_
      rotate_left
      · intro w hSw; (try dsimp only at hSw); (try go_simp); (try with_reducible rfl)
      try simp only [Act.put, List.setIfInBounds_toArray, List.set_cons_zero, List.set_cons_succ]
      refine until_s0 6 (v := ?_) rfl (by kernel_rfl) (fun _ _ _ h => h) (Or.inl ⟨by rfl, ?_⟩) (by assumption) (fun h => by first | assumption | exact absurd (h : true = false) (by decide)) ?_
      rotate_left
      · intro w hSw; (try dsimp only at hSw); (try go_simp); (try with_reducible rfl)
      try simp only [Act.put, List.setIfInBounds_toArray, List.set_cons_zero, List.set_cons_succ]
      refine until_done (by kernel_rfl) ?_ _
      go_wp2_with fail
      go_ret
      exact ⟨rfl, (Fr.drew [] _).trans f5⟩
  · have e : isE s.data.toList = 70 := by unfold isE; rw [if_neg (by rw [hl]; exact h1)]
    have b0 : ((s.size : Int) != 51) = true ∨ ((s.size : Int) != 51) = false ∧ ∃ c : UInt8, ∃ _ : 0 < s.size, s[0] = c ∧ ((c.toNat : Int) != 83) = true := by
      by_cases h : s.size = 51
      · right
        refine ⟨by simp; omega, s.data.toList.getD 0 0, by omega, sget rfl (by omega), ?_⟩
        have : (s.data.toList.getD 0 0).toNat ≠ 83 := fun e => h1 ⟨h, UInt8.toNat_inj.1 (by rw [e]; rfl)⟩
        simp only [bne_iff_ne, ne_eq]; omega
      · left; simp; omega
    rw [e]
    clear h1 e hl
    rcases b0 with b0 | ⟨b0, c, hc, g0, b1⟩ <;>
    · go_enter Tryd.func49, Tryd.ntmps49
      go_wp2_with fail
      go_ret
      exact ⟨rfl, Fr.refl _ _⟩
end Go.Proofs.YtffhfmaphjjffaaDoor
namespace Go.Proofs.YtffhfmaphjjffaaDoor
open Go.RowKit Go.Lib Go.Joins Base Gf
set_option linter.unusedVariables false
set_option linter.unusedSimpArgs false

theorem ginv_zero : ginv 0 = 0 := by decide +kernel
theorem gmul_one_iff {a b : UInt8} (h : gmul a b = 1) : b = ginv a := by
  have ha : a ≠ 0 := fun h0 => by rw [h0, zero_gmul] at h; exact absurd h (by decide)
  have := gmul_ginv ha
  have e : gmul (ginv a) (gmul a b) = b := by rw [← gmul_assoc, gmul_comm (ginv a), gmul_ginv ha, one_gmul]
  rw [h, gmul_one] at e
  exact e.symm
set_option maxRecDepth 100000 in
set_option maxHeartbeats 2000000 in
theorem rinverse_any (a : UInt8) (w : World) :
    Calls Tryd.prog 51 #[.int .i64 (bt a)] w fun e w' => e = .returned (.int .i64 (bt (ginv a))) ∧ Fr [] w w' := by
  have cT := fun b w => rtimes_any a b w
  go_enter Tryd.func51, Tryd.ntmps51
  go_wp2_with fail
  go_loopw [3] (fun v wr => ∃ i : Nat, 1 ≤ i ∧ i ≤ 256 ∧ v = .int .i64 i ∧ (∀ b : UInt8, 1 ≤ b.toNat → b.toNat < i → gmul a b ≠ 1) ∧ Fr [] w wr) (fun v _ => 256 - (intOf v).toNat)
  case atStart => exact ⟨1, by omega, by omega, rfl, fun b h1 h2 => by omega, Fr.refl _ _⟩
  case round =>
    obtain ⟨i, h1, h2, rfl, hall, hF⟩ := hrel
    by_cases hl : i < 256
    · have l1 : (i : Int) < 256 := by omega
      obtain ⟨b, hb⟩ : ∃ b, b = UInt8.ofNat i := ⟨_, rfl⟩
      have hbi : bt b = (i : Int) := by rw [hb]; exact bt_ofNat i (by omega)
      have hbn : b.toNat = i := by rw [hb]; simp; omega
      have c1 := fun w => cT b w
      rw [hbi] at c1
      by_cases hg : gmul a b = 1
      · have hgi := gmul_one_iff hg
        rw [hg, show bt 1 = 1 from rfl] at c1
        have HI := Lib.hid (And.intro hgi hbi)
        clear hb hbi hbn hg hgi hall cT
        go_wp2_with (first
          | (go_at_call 46; refine (c1 _).mono ?_; clear c1; rintro e w1 ⟨rfl, rfl⟩)
          | fail)
        go_ret
        exact ⟨by rw [← HI.out.1, HI.out.2]; rfl, hF⟩
      · have b1 : (bt (gmul a b) == 1) = false := by
          rw [beq_eq_false_iff_ne]; intro h; exact hg (UInt8.toNat_inj.1 (by unfold bt at h; have : (1 : UInt8).toNat = 1 := rfl; omega))
        have HA := Lib.hid (And.intro hall (And.intro hg hbn))
        generalize gmul a b = z at c1 b1
        clear hb hbi hbn hg hall cT
        go_wp2_with (first
          | (go_at_call 46; refine (c1 _).mono ?_; clear c1; rintro e w1 ⟨rfl, rfl⟩)
          | fail)
        refine ⟨⟨i + 1, by omega, by omega, by simp, fun c hc1 hc2 => ?_, hF⟩, by simp only [intOf]; omega⟩
        by_cases hci : c.toNat = i
        · have : c = b := UInt8.toNat_inj.1 (by rw [HA.out.2.2]; exact hci)
          rw [this]; exact HA.out.2.1
        · exact HA.out.1 c hc1 (by omega)
    · obtain rfl : i = 256 := by omega
      have hz : ginv a = 0 := by
        by_cases ha : a = 0
        · rw [ha]; exact ginv_zero
        · exfalso
          have hne : ginv a ≠ 0 := fun h => by
            have := gmul_ginv ha
            rw [h, gmul_zero] at this
            exact absurd this (by decide)
          exact hall (ginv a) (Nat.one_le_iff_ne_zero.2 (nat_ne hne)) (ginv a).toNat_lt (gmul_ginv ha)
      have HZ := Lib.hid hz
      clear hz hall cT
      go_wp2_with fail
      go_ret
      exact ⟨by rw [HZ.out]; rfl, hF⟩

/-- What two shares have in common: nine bytes. -/
theorem kin_bytes {s t : ByteArray} (hs : s.size = 51) (ht : t.size = 51) : s.extract 2 11 = t.extract 2 11 ↔ kinO s = kinO t := by
  have es : s = ⟨s.data.toList.toArray⟩ := by simp
  have et : t = ⟨t.data.toList.toArray⟩ := by simp
  have key : ∀ u : ByteArray, u.size = 51 → (u.extract 2 11).data.toList = u.data.toList.getD 2 0 :: (u.extract 3 11).data.toList := fun u hu => by
    have eu : u = ⟨u.data.toList.toArray⟩ := by simp
    have hl : u.data.toList.length = 51 := by simpa using hu
    conv => lhs; rw [eu, str_mid _ _ _ (by omega)]
    conv => rhs; rw [eu, str_mid _ _ _ (by omega)]
    have e1 : u.data.toList.drop 2 = u.data.toList[2]'(by omega) :: u.data.toList.drop 3 := List.drop_eq_getElem_cons (by omega)
    show (u.data.toList.drop 2).take 9 = _
    rw [e1]
    show u.data.toList[2]'(by omega) :: (u.data.toList.drop 3).take 8 = u.data.toList.getD 2 0 :: (u.data.toList.drop 3).take 8
    rw [List.getD, List.getElem?_eq_getElem (by omega)]; rfl
  constructor
  · intro h
    have h2 := congrArg (fun b : ByteArray => b.data.toList) h
    simp only [key s hs, key t ht, List.cons.injEq] at h2
    unfold kinO
    rw [h2.1]
    congr 1
    exact ByteArray.ext (Array.toList_inj.1 h2.2)
  · intro h
    have h1 := congrArg Prod.fst h
    have h2 := congrArg Prod.snd h
    simp only [kinO] at h1 h2
    apply ByteArray.ext
    apply Array.toList_inj.1
    rw [key s hs, key t ht, h2, UInt8.toNat_inj.1 h1]
theorem xs_snoc (ps : List ByteArray) (i : Nat) (s : ByteArray) (h : ps[i]? = some s) : xsOf ((ps.take (i + 1)).map ptO) = xsOf ((ps.take i).map ptO) ++ [s.data.toList.getD 1 0] := by
  rw [List.take_add_one, h]; simp [xsOf, ptO]
theorem xs_mem (ps : List ByteArray) (i : Nat) (x : UInt8) : x ∈ xsOf ((ps.take i).map ptO) ↔ ∃ j t, j < i ∧ ps[j]? = some t ∧ t.data.toList.getD 1 0 = x := by
  simp only [xsOf, List.mem_map, List.map_map, Function.comp]
  constructor
  · rintro ⟨t, ht, rfl⟩
    obtain ⟨j, hj⟩ := List.mem_iff_getElem?.1 ht
    rw [List.getElem?_take] at hj
    split at hj
    · rename_i hlt; exact ⟨j, t, hlt, hj, rfl⟩
    · simp at hj
  · rintro ⟨j, t, hj, ht, rfl⟩
    exact ⟨t, List.mem_iff_getElem?.2 ⟨j, by rw [List.getElem?_take, if_pos hj]; exact ht⟩, rfl⟩
set_option maxRecDepth 100000 in
set_option maxHeartbeats 4000000 in
theorem rtog_any (ps : List ByteArray) (ad : Option Addr) (cap : Nat) (hn : ps.length ≤ 4194304) (w : World) (hP : Powers w) (hQ : RefRoots w) (hT : Texts w ad ps) :
    Calls Tryd.prog 37 #[.slice ad ps.length cap] w fun e w' => e = .returned (.int .i64 (togE ps)) ∧ Fr [] w w' := by
  go_enter Tryd.func37, Tryd.ntmps37
  go_wp2_with fail
  go_loopw [3, 4] (fun v _ wr => ∃ i : Nat, i ≤ ps.length ∧ v = .int .i64 i ∧ (∀ (j : Nat) (t : ByteArray), j < i → ps[j]? = some t → isE t.data.toList = 0) ∧ Fr [] w wr) (fun v _ _ => ps.length - (intOf v).toNat)
  case atStart => exact ⟨0, by omega, rfl, fun j t hj => by omega, Fr.refl _ _⟩
  case round =>
    obtain ⟨i, hi, rfl, hok, hF⟩ := hrel
    by_cases hl : i < ps.length
    · have l1 : (i : Int) < ps.length := by omega
      obtain ⟨s, hs⟩ : ∃ s, ps[i]? = some s := ⟨_, List.getElem?_eq_getElem hl⟩
      obtain ⟨g, o, rfl, hc⟩ := (hT.keep hF) i s hs
      have c1 := fun w h1 h2 => ris_any s w h1 h2
      by_cases hE : isE s.data.toList = 0
      · rw [hE] at c1
        have hok' : ∀ (j : Nat) (t : ByteArray), j < i + 1 → ps[j]? = some t → isE t.data.toList = 0 := fun j t hj ht => by
          by_cases h : j = i
          · subst h; rw [hs] at ht; cases ht; exact hE
          · exact hok j t (by omega) ht
        have HH := Lib.hid hok'
        clear hs hE hok hok'
        go_wp2_with (first
          | (go_at_call 49; refine (c1 _ (hP.keep hF) (hQ.keep hF)).mono ?_; clear c1; rintro e w1 ⟨rfl, f1⟩; have hF := hF.trans f1)
          | fail)
        exact ⟨⟨i + 1, by omega, by simp, HH.out, hF⟩, by simp only [intOf]; omega⟩
      · have b1 : (isE s.data.toList != 0) = true := by simpa using hE
        have hbad := badE_take ps i s hok hs hE
        have htog : togE ps = isE s.data.toList := by rw [← hbad]; unfold togE; rw [if_neg (by rw [hbad]; exact hE)]
        have HH := Lib.hid htog
        generalize isE s.data.toList = E at c1 b1 HH
        clear hs hE hok hbad htog
        go_wp2_with (first
          | (go_at_call 49; refine (c1 _ (hP.keep hF) (hQ.keep hF)).mono ?_; clear c1; rintro e w1 ⟨rfl, f1⟩; have hF := hF.trans f1)
          | fail)
        go_ret
        exact ⟨by rw [HH.out]; rfl, hF⟩
    · obtain rfl : i = ps.length := by omega
      have hall : ∀ s ∈ ps, isE s.data.toList = 0 := fun s hs => by
        obtain ⟨j, hj, rfl⟩ := List.mem_iff_getElem.1 hs
        exact hok j _ hj (List.getElem?_eq_getElem hj)
      have HALL := Lib.hid hall
      clear hok hall
      go_wp2_with fail
      have rel0 : ∃ i : Nat, 1 ≤ i ∧ Value.int .i64 1 = .int .i64 i ∧ (i ≤ ps.length ∨ ps.length = 0) ∧ (∀ (j : Nat) (s t : ByteArray), j < i → ps[j]? = some s → ps[0]? = some t → kinO s = kinO t) ∧ Fr [] w wr := ⟨1, by omega, rfl, by omega, fun j s t hj hs ht => by
        obtain rfl : j = 0 := by omega
        rw [hs] at ht; cases ht; rfl, hF⟩
      clear hF
      go_loopw [5] (fun v wr => ∃ i : Nat, 1 ≤ i ∧ v = .int .i64 i ∧ (i ≤ ps.length ∨ ps.length = 0) ∧ (∀ (j : Nat) (s t : ByteArray), j < i → ps[j]? = some s → ps[0]? = some t → kinO s = kinO t) ∧ Fr [] w wr) (fun v _ => ps.length - (intOf v).toNat)
      case atStart => exact rel0
      case round =>
        clear rel0
        obtain ⟨i, h1, rfl, hi, hkin, hF⟩ := hrel
        by_cases hl : i < ps.length
        · have l1 : (i : Int) < ps.length := by omega
          have l0 : (0 : Int) < ps.length := by omega
          obtain ⟨s, hs⟩ : ∃ s, ps[i]? = some s := ⟨_, List.getElem?_eq_getElem hl⟩
          obtain ⟨t, ht⟩ : ∃ t, ps[0]? = some t := ⟨_, List.getElem?_eq_getElem (by omega)⟩
          obtain ⟨g, o, rfl, hc⟩ := (hT.keep hF) i s hs
          obtain ⟨g', o', e', hc0⟩ := (hT.keep hF) 0 t ht
          cases e'
          rw [Nat.add_zero] at hc0
          have hs51 := (isE_parts _ (HALL.out s (List.mem_of_getElem? hs))).1
          have ht51 := (isE_parts _ (HALL.out t (List.mem_of_getElem? ht))).1
          have hss : s.size = 51 := by simpa using hs51
          have hts : t.size = 51 := by simpa using ht51
          have hkb := kin_bytes hss hts
          by_cases hk : kinO s = kinO t
          · have b1 := str_eq (hkb.2 hk)
            have HH := Lib.hid (And.intro hs (And.intro ht (And.intro hk hkin)))
            clear hs ht hk hkb hkin hs51 ht51
            go_wp2_with fail
            go_region
            go_wp2_with fail
            refine ⟨⟨i + 1, by omega, by simp, by omega, fun j u v hj hu hv => ?_, hF.trans (Fr.drew _ _)⟩, by simp only [intOf]; omega⟩
            by_cases hji : j = i
            · subst hji
              rw [HH.out.1] at hu; cases hu
              rw [HH.out.2.1] at hv; cases hv
              exact HH.out.2.2.1
            · exact HH.out.2.2.2 j u v (by omega) hu hv
          · have b1 := str_neq (fun h => hk (hkb.1 h))
            have htog : togE ps = 260 := by
              unfold togE
              rw [if_pos (badE_all ps fun j u hu => HALL.out u (List.mem_of_getElem? hu)), if_neg (fun h => hk (h s (List.mem_of_getElem? hs) t (List.mem_of_getElem? ht)))]
            have HH := Lib.hid htog
            clear hs ht hk hkb hkin hs51 ht51 htog
            go_wp2_with fail
            go_region
            go_wp2_with fail
            go_ret
            exact ⟨by rw [HH.out]; rfl, hF.trans (Fr.drew _ _)⟩
        · have hl' : ¬ (i : Int) < ps.length := by omega
          have hk : ∀ s ∈ ps, ∀ t ∈ ps, kinO s = kinO t := fun s hs t ht => by
            obtain ⟨a, ha, rfl⟩ := List.mem_iff_getElem.1 hs
            obtain ⟨b, hb, rfl⟩ := List.mem_iff_getElem.1 ht
            have h0 : ps[0]? = some (ps[0]'(by omega)) := List.getElem?_eq_getElem (by omega)
            rw [hkin a _ _ (by omega) (List.getElem?_eq_getElem ha) h0, hkin b _ _ (by omega) (List.getElem?_eq_getElem hb) h0]
          have htog : togE ps = if (xsOf (ps.map ptO)).Nodup then 0 else 261 := by
            unfold togE
            rw [if_pos (badE_all ps fun j u hu => HALL.out u (List.mem_of_getElem? hu)), if_pos hk]
          have HK := Lib.hid htog
          clear hk hkin htog hi h1 hl
          go_wp2_with fail
          have rel0 : ∃ i : Nat, i ≤ ps.length ∧ Value.int .i64 0 = .int .i64 i ∧ (xsOf ((ps.take i).map ptO)).Nodup ∧ Fr [] w wr := ⟨0, by omega, rfl, by simp [xsOf], hF⟩
          clear hF hl'
          go_loopw [6, 7] (fun v _ wr => ∃ i : Nat, i ≤ ps.length ∧ v = .int .i64 i ∧ (xsOf ((ps.take i).map ptO)).Nodup ∧ Fr [] w wr) (fun v _ _ => ps.length - (intOf v).toNat)
          case atStart => exact rel0
          case round =>
            clear rel0
            obtain ⟨i, hi, rfl, hnd, hF⟩ := hrel
            by_cases hl : i < ps.length
            · have l1 : (i : Int) < ps.length := by omega
              obtain ⟨s, hs⟩ : ∃ s, ps[i]? = some s := ⟨_, List.getElem?_eq_getElem hl⟩
              have hss : s.size = 51 := by simpa using (isE_parts _ (HALL.out s (List.mem_of_getElem? hs))).1
              have hx1 : 1 < s.size := by omega
              have hxs : s[1] = s.data.toList.getD 1 0 := sget rfl hx1
              obtain ⟨x, hx⟩ : ∃ x, x = s.data.toList.getD 1 0 := ⟨_, rfl⟩
              rw [← hx] at hxs
              obtain ⟨g, o, rfl, _⟩ := (hT.keep hF) i s hs
              have hc : ∀ w' : World, Fr [] w w' → w'.cell? ⟨g, o + i, none⟩ = some (.string s) := fun w' f => by
                obtain ⟨g', o', e', h⟩ := (hT.keep f) i s hs
                cases e'; exact h
              have HS := Lib.hid (And.intro hs (And.intro hx (And.intro hnd hc)))
              clear hs hx hnd hc
              go_wp2_with fail
              have rel1 : ∃ j : Nat, j ≤ i ∧ Value.int .i64 0 = .int .i64 j ∧ (∀ (k : Nat) (t : ByteArray), k < j → ps[k]? = some t → t.data.toList.getD 1 0 ≠ x) ∧ Fr [] w wr := ⟨0, by omega, rfl, fun k t hk => by omega, hF⟩
              clear hF
              go_loopw [7] (fun v wr => ∃ j : Nat, j ≤ i ∧ v = .int .i64 j ∧ (∀ (k : Nat) (t : ByteArray), k < j → ps[k]? = some t → t.data.toList.getD 1 0 ≠ x) ∧ Fr [] w wr) (fun v _ => i - (intOf v).toNat)
              case atStart => exact rel1
              case round =>
                clear rel1
                obtain ⟨j, hj, rfl, hne, hF⟩ := hrel
                by_cases hjl : j < i
                · have l2 : (j : Int) < i := by omega
                  have l3 : (j : Int) < ps.length := by omega
                  obtain ⟨t, ht⟩ : ∃ t, ps[j]? = some t := ⟨_, List.getElem?_eq_getElem (by omega)⟩
                  have hts : t.size = 51 := by simpa using (isE_parts _ (HALL.out t (List.mem_of_getElem? ht))).1
                  have hy1 : 1 < t.size := by omega
                  have hys : t[1] = t.data.toList.getD 1 0 := sget rfl hy1
                  obtain ⟨y, hy⟩ : ∃ y, y = t.data.toList.getD 1 0 := ⟨_, rfl⟩
                  rw [← hy] at hys
                  obtain ⟨g', o', e', hct⟩ := (hT.keep hF) j t ht
                  cases e'
                  have hcs := HS.out.2.2.2 wr hF
                  by_cases hxy : x = y
                  · have b1 : ((x.toNat : Int) == (y.toNat : Int)) = true := by rw [hxy]; simp
                    have hnn : ¬ (xsOf (ps.map ptO)).Nodup := fun h => by
                      have h2 : (xsOf ((ps.take (i + 1)).map ptO)).Nodup := by
                        refine List.Sublist.nodup ?_ h
                        unfold xsOf
                        exact ((List.take_sublist _ _).map _).map _
                      rw [xs_snoc ps i s HS.out.1, List.nodup_append] at h2
                      refine h2.2.2 x ((xs_mem ps i x).2 ⟨j, t, hjl, ht, by rw [← hy, hxy]⟩) x ?_ rfl
                      rw [← HS.out.2.1]; simp
                    have htog := HK.out
                    rw [if_neg hnn] at htog
                    have HT := Lib.hid htog
                    clear hxy hnn htog hy ht hne
                    go_wp2_with fail
                    go_region
                    go_wp2_with fail
                    go_ret
                    exact ⟨by rw [HT.out]; rfl, hF.trans (Fr.drew _ _)⟩
                  · have b1 : ((x.toNat : Int) == (y.toNat : Int)) = false := by
                      rw [beq_eq_false_iff_ne]; intro h; exact hxy (UInt8.toNat_inj.1 (by omega))
                    have HN := Lib.hid (And.intro hne (And.intro ht (And.intro hy hxy)))
                    clear hxy hy ht hne
                    go_wp2_with fail
                    go_region
                    go_wp2_with fail
                    refine ⟨⟨j + 1, by omega, by simp, fun k u hk hu => ?_, hF.trans (Fr.drew _ _)⟩, by simp only [intOf]; omega⟩
                    by_cases hkj : k = j
                    · subst hkj
                      rw [HN.out.2.1] at hu; cases hu
                      rw [← HN.out.2.2.1]; exact fun h => HN.out.2.2.2 h.symm
                    · exact HN.out.1 k u (by omega) hu
                · obtain rfl : j = i := by omega
                  have hnd2 : (xsOf ((ps.take (j + 1)).map ptO)).Nodup := by
                    rw [xs_snoc ps j s HS.out.1, List.nodup_append]
                    refine ⟨HS.out.2.2.1, by simp, fun a ha b hb hab => ?_⟩
                    rw [List.mem_singleton.1 hb, ← HS.out.2.1] at hab
                    subst hab
                    obtain ⟨k, t, hk, ht, hx⟩ := (xs_mem ps j a).1 ha
                    exact hne k t hk ht hx
                  have HN := Lib.hid hnd2
                  clear hnd2 hne
                  go_wp2_with fail
                  exact ⟨⟨j + 1, by omega, by simp, HN.out, hF⟩, by simp only [intOf]; omega⟩
            · obtain rfl : i = ps.length := by omega
              rw [List.take_length] at hnd
              have htog := HK.out
              rw [if_pos hnd] at htog
              have HT := Lib.hid htog
              clear hnd htog
              go_wp2_with fail
              go_ret
              exact ⟨by rw [HT.out]; rfl, hF⟩
end Go.Proofs.YtffhfmaphjjffaaDoor
namespace Go.Proofs.YtffhfmaphjjffaaDoor
open Go.RowKit Go.Lib Go.Joins Base Gf
set_option linter.unusedVariables false
set_option linter.unusedSimpArgs false

theorem jcells_get (c : List UInt8) (i : Nat) (h : i < c.length) : (jcells c)[i]? = some (.int .i64 (bt (c.getD i 0))) := by
  rw [jcells, List.getElem?_map, List.getElem?_eq_getElem h, List.getD, List.getElem?_eq_getElem h]; rfl
theorem scaleP_get (c : List UInt8) (r f : UInt8) (i : Nat) (h : i < c.length + 1) : (scaleP c r f).getD i 0 = gmul ((if i < c.length then gmul (c.getD i 0) r else 0) ^^^ (if 0 < i then c.getD (i - 1) 0 else 0)) f := by
  simp [scaleP, List.getD, h]
theorem jtake (c : List UInt8) (i : Nat) (h : i < c.length) : jcells (c.take (i + 1)) = jcells (c.take i) ++ [.int .i64 (bt (c.getD i 0))] := by
  rw [take_snoc0 c i h, jcells, jcells, List.map_append]; rfl
set_option maxRecDepth 100000 in
set_option maxHeartbeats 4000000 in
theorem rscaled_any (c : List UInt8) (r f : UInt8) (g cap : Nat) (h0 : 0 < c.length) (hl : c.length ≤ 1000) (w : World) (hc : ∀ (w' : World), Fr [] w w' → ∀ j u, (jcells c)[j]? = some u → w'.cell? ⟨g, j, none⟩ = some u) :
    Calls Tryd.prog 50 #[.slice (some ⟨g, 0, none⟩) c.length cap, .int .i64 (bt r), .int .i64 (bt f)] w fun e w' => ∃ v, e = .returned v ∧ w'.ownsRow w.heap.size 3 1 v (c.length + 1) (jcells (scaleP c r f)) ∧ Fr [] w w' := by
  have hi7 : (Tryd.prog.info? 3).map (fun i => (i.zero, i.size, i.bytes)) = some (some (.int .i64 0), 1, 8) := by kernel_rfl
  obtain ⟨iI, hiI, zI0, zI1, zI2⟩ := info_parts hi7
  have cT := fun a b w => rtimes_any a b w
  obtain ⟨Z, hZ⟩ : ∃ Z, Z = scaleP c r f := ⟨_, rfl⟩
  have hZl : Z.length = c.length + 1 := by rw [hZ, scaleP_len]
  have hZg : ∀ i, i < c.length + 1 → Z.getD i 0 = gmul ((if i < c.length then gmul (c.getD i 0) r else 0) ^^^ (if 0 < i then c.getD (i - 1) 0 else 0)) f := fun i hi => by rw [hZ]; exact scaleP_get c r f i hi
  rw [← hZ]
  have HZ := Lib.hid (And.intro hZl hZg)
  clear hZ hZl hZg
  go_enter Tryd.func50, Tryd.ntmps50
  go_wp2_with fail
  go_loopw [7, 8, 9] (fun v7 v8 _ wr => ∃ i : Nat, i ≤ c.length + 1 ∧ v8 = .int .i64 i ∧ wr.ownsRow w.heap.size 3 1 v7 i (jcells (Z.take i)) ∧ Below w.heap.size w wr) (fun _ v _ _ => c.length + 1 - (intOf v).toNat)
  case atStart => exact ⟨0, by omega, rfl, World.ownsRow_nil _ _ _ _, Below.refl _ _⟩
  case round =>
    obtain ⟨i, hi, rfl, hV, hB⟩ := hrel
    by_cases hle : i ≤ c.length
    · have l1 : (i : Int) ≤ c.length := by omega
      have hsz := hB.size
      have hF := Fr.ofBelow hB
      have hT1 := jtake Z i (by have := HZ.out.1; omega)
      have hg := HZ.out.2 i (by omega)
      by_cases hlt : i < c.length
      · have l2 : (i : Int) < c.length := by omega
        obtain ⟨x, hx⟩ : ∃ x, x = c.getD i 0 := ⟨_, rfl⟩
        have hcx := hc wr hF i _ (jcells_get c i hlt)
        rw [← hx] at hcx hg
        rw [if_pos hlt] at hg
        by_cases hi0 : 0 < i
        · have l3 : (0 : Int) < i := by omega
          have wi : IntKind.i64.wrap ((i : Int) - 1) = ((i - 1 : Nat) : Int) := by rw [IntWalk.i64_in _ (by omega)]; omega
          have l4 : ((i - 1 : Nat) : Int) < c.length := by omega
          obtain ⟨y, hy⟩ : ∃ y, y = c.getD (i - 1) 0 := ⟨_, rfl⟩
          have hcy := hc wr hF (i - 1) _ (jcells_get c (i - 1) (by omega))
          rw [← hy] at hcy hg
          rw [if_pos hi0] at hg
          obtain ⟨i1, hi1⟩ : ∃ i1, i1 = i - 1 := ⟨_, rfl⟩
          rw [← hi1] at hcy wi l4
          have t1 := fun w => cT x r w
          have t2 := fun w => cT (gmul x r ^^^ y) f w
          obtain ⟨z, hz⟩ : ∃ z, z = gmul x r := ⟨_, rfl⟩
          rw [← hz] at t1 t2 hg
          obtain ⟨Q, hQ⟩ : ∃ Q, Q = gmul (z ^^^ y) f := ⟨_, rfl⟩
          rw [← hQ] at t2 hg
          rw [hg] at hT1
          have rx := fun t => ib_xorB t z y
          have mk1 : True := trivial
          have HT := Lib.hid hT1
          have A6 := At.alloc_new wr 3 #[Value.int .i64 (bt Q)]
          clear hx hy hz hQ hT1 hg cT hi1 hlt hi0 hle
          go_wp2_with (first
            | (go_at_call 46; clear mk1; refine (t1 _).mono ?_; clear t1; rintro _ w3 ⟨rfl, rfl⟩)
            | (go_at_call 46; refine (t2 _).mono ?_; clear t2; rintro _ w4 ⟨rfl, rfl⟩)
            | (at_builtin; refine wpList_append_own _ rfl _ _ _ rfl w.heap.size 3 iI (.int .i64 0) 1 8 Tryd.underlying51 hiI zI0 zI1 zI2 rfl (by decide) _ i _ rfl (World.ownsRow.alloc hV _) ⟨wr.heap.size, 0, none⟩ 1 1 [.int .i64 (bt Q)] rfl rfl (by intro j u hj; rw [addr_add', Nat.zero_add]; exact (A6.cell j).trans hj) (by intro u hu; simp at hu; subst hu; rfl) (by simp [maxLen]; omega) (by omega) (by simp; omega) ?_; intro v7 w7 o7 gr7 _)
            | fail)
          refine ⟨⟨i + 1, by omega, by simp, by rw [HT.out]; exact o7, (hB.alloc (by omega) _).grown gr7 (by simp; omega) (fun k hk => (hV.lt k hk).1)⟩, by simp only [intOf]; omega⟩
        · obtain rfl : i = 0 := by omega
          rw [if_neg hi0, UInt8.xor_zero] at hg
          have t1 := fun w => cT x r w
          have t2 := fun w => cT (gmul x r) f w
          obtain ⟨z, hz⟩ : ∃ z, z = gmul x r := ⟨_, rfl⟩
          rw [← hz] at t1 t2 hg
          obtain ⟨Q, hQ⟩ : ∃ Q, Q = gmul z f := ⟨_, rfl⟩
          rw [← hQ] at t2 hg
          rw [hg] at hT1
          have mk1 : True := trivial
          have HT := Lib.hid hT1
          have A6 := At.alloc_new wr 3 #[Value.int .i64 (bt Q)]
          clear hx hz hQ hT1 hg cT hlt hi0 hle
          go_wp2_with (first
            | (go_at_call 46; clear mk1; refine (t1 _).mono ?_; clear t1; rintro _ w3 ⟨rfl, rfl⟩)
            | (go_at_call 46; refine (t2 _).mono ?_; clear t2; rintro _ w4 ⟨rfl, rfl⟩)
            | (at_builtin; refine wpList_append_own _ rfl _ _ _ rfl w.heap.size 3 iI (.int .i64 0) 1 8 Tryd.underlying51 hiI zI0 zI1 zI2 rfl (by decide) _ 0 _ rfl (World.ownsRow.alloc hV _) ⟨wr.heap.size, 0, none⟩ 1 1 [.int .i64 (bt Q)] rfl rfl (by intro j u hj; rw [addr_add', Nat.zero_add]; exact (A6.cell j).trans hj) (by intro u hu; simp at hu; subst hu; rfl) (by simp [maxLen]) (by omega) (by simp; omega) ?_; intro v7 w7 o7 gr7 _)
            | fail)
          refine ⟨⟨1, by omega, by simp, by rw [HT.out]; exact o7, (hB.alloc (by omega) _).grown gr7 (by simp; omega) (fun k hk => (hV.lt k hk).1)⟩, by simp only [intOf]; omega⟩
      · obtain rfl : i = c.length := by omega
        have l3 : (0 : Int) < c.length := by omega
        have wi : IntKind.i64.wrap ((c.length : Int) - 1) = ((c.length - 1 : Nat) : Int) := by rw [IntWalk.i64_in _ (by omega)]; omega
        have l4 : ((c.length - 1 : Nat) : Int) < c.length := by omega
        rw [if_neg hlt, if_pos h0, UInt8.zero_xor] at hg
        obtain ⟨y, hy⟩ : ∃ y, y = c.getD (c.length - 1) 0 := ⟨_, rfl⟩
        have hcy := hc wr hF (c.length - 1) _ (jcells_get c (c.length - 1) (by omega))
        rw [← hy] at hcy hg
        obtain ⟨i1, hi1⟩ : ∃ i1, i1 = c.length - 1 := ⟨_, rfl⟩
        rw [← hi1] at hcy wi l4
        have hx0 : ∀ t, binOp .xor t (.int .i64 0) (.int .i64 (bt y)) = pure (.int .i64 (bt y)) := fun t => by
          have := ib_xorB (t := t) 0 y
          rwa [show bt 0 = 0 from rfl, UInt8.zero_xor] at this
        have t2 := fun w => cT y f w
        obtain ⟨Q, hQ⟩ : ∃ Q, Q = gmul y f := ⟨_, rfl⟩
        rw [← hQ] at t2 hg
        rw [hg] at hT1
        have HT := Lib.hid hT1
        have A6 := At.alloc_new wr 3 #[Value.int .i64 (bt Q)]
        clear hy hQ hT1 hg cT hi1 hlt hle
        go_wp2_with (first
          | (go_at_call 46; refine (t2 _).mono ?_; clear t2; rintro _ w4 ⟨rfl, rfl⟩)
          | (at_builtin; refine wpList_append_own _ rfl _ _ _ rfl w.heap.size 3 iI (.int .i64 0) 1 8 Tryd.underlying51 hiI zI0 zI1 zI2 rfl (by decide) _ c.length _ rfl (World.ownsRow.alloc hV _) ⟨wr.heap.size, 0, none⟩ 1 1 [.int .i64 (bt Q)] rfl rfl (by intro j u hj; rw [addr_add', Nat.zero_add]; exact (A6.cell j).trans hj) (by intro u hu; simp at hu; subst hu; rfl) (by simp [maxLen]; omega) (by omega) (by simp; omega) ?_; intro v7 w7 o7 gr7 _)
          | fail)
        refine ⟨⟨c.length + 1, by omega, by simp, by rw [HT.out]; exact o7, (hB.alloc (by omega) _).grown gr7 (by simp; omega) (fun k hk => (hV.lt k hk).1)⟩, by simp only [intOf]; omega⟩
    · obtain rfl : i = c.length + 1 := by omega
      have l1 : ¬ ((c.length + 1 : Nat) : Int) ≤ c.length := by omega
      rw [List.take_of_length_le (by have := HZ.out.1; omega)] at hV
      obtain ⟨n1, hn1⟩ : ∃ n1, n1 = c.length + 1 := ⟨_, rfl⟩
      rw [← hn1] at l1 hV ⊢
      have HN := Lib.hid hn1
      clear hn1 hle
      go_wp2_with fail
      go_ret
      exact ⟨_, rfl, by rw [← HN.out]; exact hV, Fr.ofBelow hB⟩
end Go.Proofs.YtffhfmaphjjffaaDoor
namespace Go.Proofs.YtffhfmaphjjffaaDoor
open Go.RowKit Go.Lib Go.Joins Base Gf
set_option linter.unusedVariables false
set_option linter.unusedSimpArgs false

/-- The document's points in memory. -/
def qcells (p : UInt8 × UInt8) : List Value := [.int .i64 (bt p.1), .int .i64 (bt p.2)]
def qsC (l : List (UInt8 × UInt8)) : List Value := l.flatMap qcells
theorem qsC_len : ∀ (l : List (UInt8 × UInt8)), (qsC l).length = l.length * 2
  | [] => rfl
  | p :: l => by
    have := qsC_len l
    simp only [qsC, List.flatMap_cons, List.length_append, List.length_cons] at this ⊢
    rw [this]; simp [qcells]; omega
theorem qsC_get : ∀ (l : List (UInt8 × UInt8)) (i : Nat) (p : UInt8 × UInt8), l[i]? = some p → (qsC l)[i * 2]? = some (.int .i64 (bt p.1)) ∧ (qsC l)[i * 2 + 1]? = some (.int .i64 (bt p.2))
  | [], i, p, h => by simp at h
  | q :: l, 0, p, h => by simp at h; subst h; exact ⟨rfl, rfl⟩
  | q :: l, i + 1, p, h => by
    have := qsC_get l i p (by simpa using h)
    have e : qsC (q :: l) = .int .i64 (bt q.1) :: .int .i64 (bt q.2) :: qsC l := rfl
    rw [e, show (i + 1) * 2 = i * 2 + 1 + 1 by omega, show i * 2 + 1 + 1 + 1 = (i * 2 + 1) + 1 + 1 by omega]
    simp only [List.getElem?_cons_succ]
    exact this
theorem qsC_app (a b : List (UInt8 × UInt8)) : qsC (a ++ b) = qsC a ++ qsC b := by simp [qsC]
def pairsOf (ps : List ByteArray) (j : Nat) : List (UInt8 × UInt8) := ps.map fun s => (s.data.toList.getD 1 0, s.data.toList.getD (11 + j) 0)
theorem pairs_snoc (ps : List ByteArray) (j i : Nat) (s : ByteArray) (h : ps[i]? = some s) : pairsOf (ps.take (i + 1)) j = pairsOf (ps.take i) j ++ [(s.data.toList.getD 1 0, s.data.toList.getD (11 + j) 0)] := by
  rw [List.take_add_one, h]; simp [pairsOf]
theorem qs_one (p : UInt8 × UInt8) : ∀ v ∈ qcells p, v.oneCell' = true := by
  intro v hv; simp only [qcells, List.mem_cons, List.not_mem_nil, or_false] at hv; rcases hv with rfl | rfl <;> rfl
set_option maxRecDepth 100000 in
set_option maxHeartbeats 4000000 in
theorem rpoints_any (ps : List ByteArray) (ad : Option Addr) (cap n j : Nat) (hn : n ≤ ps.length) (hn2 : n ≤ 1000) (hj : j < 32) (h51 : ∀ s ∈ ps, s.size = 51) (w : World) (hT : Texts w ad ps) :
    Calls Tryd.prog 39 #[.slice ad ps.length cap, .int .i64 n, .int .i64 j] w fun e w' => ∃ v, e = .returned v ∧ w'.ownsRow w.heap.size 84 2 v n (qsC (pairsOf (ps.take n) j)) ∧ Fr [] w w' := by
  have hiP5 : (Tryd.prog.info? 84).map (fun i => (i.zero, i.size, i.bytes)) = some (some (.agg #[.int .i64 0, .int .i64 0]), 2, 16) := by kernel_rfl
  obtain ⟨iP, hiP, zP0, zP1, zP2⟩ := info_parts hiP5
  go_enter Tryd.func39, Tryd.ntmps39
  go_wp2_with fail
  go_loopw [7, 8] (fun v7 v8 wr => ∃ i : Nat, i ≤ n ∧ v8 = .int .i64 i ∧ wr.ownsRow w.heap.size 84 2 v7 i (qsC (pairsOf (ps.take i) j)) ∧ Below w.heap.size w wr) (fun _ v _ => n - (intOf v).toNat)
  case atStart => exact ⟨0, by omega, rfl, World.ownsRow_nil _ _ _ _, Below.refl _ _⟩
  case round =>
    obtain ⟨i, hi, rfl, hV, hB⟩ := hrel
    by_cases hl : i < n
    · have l1 : (i : Int) < n := by omega
      have l2 : (i : Int) < ps.length := by omega
      obtain ⟨s, hs⟩ : ∃ s, ps[i]? = some s := ⟨_, List.getElem?_eq_getElem (by omega)⟩
      have hss := h51 s (List.mem_of_getElem? hs)
      obtain ⟨g, o, rfl, hc⟩ := (hT.keep (Fr.ofBelow hB)) i s hs
      have i1 : 1 < s.size := by omega
      have i2 : 11 + j < s.size := by omega
      obtain ⟨x, hx⟩ : ∃ x, x = s.data.toList.getD 1 0 := ⟨_, rfl⟩
      obtain ⟨y, hy⟩ : ∃ y, y = s.data.toList.getD (11 + j) 0 := ⟨_, rfl⟩
      have g1 : s[1] = x := by rw [hx]; exact sget rfl i1
      have g2 : s[11 + j] = y := by rw [hy]; exact sget rfl i2
      have hsn := pairs_snoc ps j i s hs
      rw [← hx, ← hy] at hsn
      have HS := Lib.hid hsn
      have w11 : IntKind.i64.wrap (11 + (j : Int)) = ((11 + j : Nat) : Int) := by rw [IntWalk.i64_in _ (by omega)]; omega
      have hsz := hB.size
      obtain ⟨k, hk⟩ : ∃ k, k = 11 + j := ⟨_, rfl⟩
      have w12 : IntKind.i64.wrap (11 + (j : Int)) = (k : Int) := by rw [w11, hk]
      have i3 : k < s.size := by omega
      have i4 : (k : Int) < 51 := by omega
      have g3 : s[k] = y := by
        subst hk; exact g2
      have hcw : ∀ w' : World, Fr [] w w' → w'.cell? ⟨g, o + i, none⟩ = some (.string s) := fun w' f => by
        obtain ⟨g', o', e', h⟩ := (hT.keep f) i s hs
        cases e'; exact h
      have HCW := Lib.hid hcw
      clear hx hy hsn hs w11 hk g2 i2 hcw
      have hbP : ∃ ie z, Tryd.prog.info? 84 = some ie ∧ ie.zero = some z ∧ ie.size = (qcells (x, y)).length := ⟨iP, _, hiP, zP0, by rw [zP1]; rfl⟩
      go_wp2_with fail
      refine wp_region_until (fun w' => w'.cell? ⟨g, o + i, none⟩ = some (.string s)) (fun _ => True) 1000 (by rfl) ?_
      have hT0 : True := trivial
      have hV := own_fr hV (Fr.drew [] _) (by simp)
      have hB : Below w.heap.size w wr.drew := (Fr.trans (Fr.ofBelow hB) (Fr.drew [] _)).below
      have hc : wr.drew.cell? ⟨g, o + i, none⟩ = some (.string s) := hc
      have hsz := hB.size
      generalize wr.drew = W at hV hB hc hsz ⊢
      have s0 := hc
      refine until_s0 0 (v := ?_) rfl (by kernel_rfl) (fun _ _ _ h => h) (Or.inl ⟨by rfl, ?_⟩) (by assumption) (fun h => by first | assumption | exact absurd (h : true = false) (by decide)) ?_
      rotate_left
      · intro w hSw; (try dsimp only at hSw); (try go_simp); (try with_reducible rfl)
      try simp only [Act.put, List.setIfInBounds_toArray, List.set_cons_zero, List.set_cons_succ]
      refine until_s0 1 (v := ?_) rfl (by kernel_rfl) (fun _ _ _ h => h) (Or.inl ⟨by rfl, ?_⟩) (by assumption) (fun h => by first | assumption | exact absurd (h : true = false) (by decide)) ?_
      rotate_left
      · intro w hSw; (try dsimp only at hSw); (try go_simp); (try with_reducible rfl)
      try simp only [Act.put, List.setIfInBounds_toArray, List.set_cons_zero, List.set_cons_succ]
      refine until_s0 2 (v := ?_) rfl (by kernel_rfl) (fun _ _ _ h => h) (Or.inl ⟨by rfl, ?_⟩) (by assumption) (fun h => by first | assumption | exact absurd (h : true = false) (by decide)) ?_
      rotate_left
      · intro w hSw; (try dsimp only at hSw); (try go_simp); (try with_reducible rfl)
      try simp only [Act.put, List.setIfInBounds_toArray, List.set_cons_zero, List.set_cons_succ]
      refine until_s0 3 (v := ?_) rfl (by kernel_rfl) (fun _ _ _ h => h) (Or.inl ⟨by rfl, ?_⟩) (by assumption) (fun h => by first | assumption | exact absurd (h : true = false) (by decide)) ?_
      rotate_left
      · intro w hSw; (try dsimp only at hSw); (try go_simp); (try with_reducible rfl)
      try simp only [Act.put, List.setIfInBounds_toArray, List.set_cons_zero, List.set_cons_succ]
      refine until_s0 4 (v := ?_) rfl (by kernel_rfl) (fun _ _ _ h => h) (Or.inl ⟨by rfl, ?_⟩) (by assumption) (fun h => by first | assumption | exact absurd (h : true = false) (by decide)) ?_
      rotate_left
      · intro w hSw; (try dsimp only at hSw); (try go_simp); (try with_reducible rfl)
      try simp only [Act.put, List.setIfInBounds_toArray, List.set_cons_zero, List.set_cons_succ]
      refine until_s0 5 (v := ?_) rfl (by kernel_rfl) (fun _ _ _ h => h) (Or.inl ⟨by rfl, ?_⟩) (by assumption) (fun h => by first | assumption | exact absurd (h : true = false) (by decide)) ?_
      rotate_left
      · intro w hSw; (try dsimp only at hSw); (try go_simp); (try with_reducible rfl)
      try simp only [Act.put, List.setIfInBounds_toArray, List.set_cons_zero, List.set_cons_succ]
      refine until_s0 6 (v := ?_) rfl (by kernel_rfl) (fun _ _ _ h => h) (Or.inl ⟨by rfl, ?_⟩) (by assumption) (fun h => by first | assumption | exact absurd (h : true = false) (by decide)) ?_
      rotate_left
      · intro w hSw; (try dsimp only at hSw); (try go_simp); (try with_reducible rfl)
      try simp only [Act.put, List.setIfInBounds_toArray, List.set_cons_zero, List.set_cons_succ]
      refine until_s0 7 (v := ?_) rfl (by kernel_rfl) (fun _ _ _ h => h) (Or.inl ⟨by rfl, ?_⟩) (by assumption) (fun h => by first | assumption | exact absurd (h : true = false) (by decide)) ?_
      rotate_left
      · intro w hSw; (try dsimp only at hSw); (try go_simp); (try with_reducible rfl)
      try simp only [Act.put, List.setIfInBounds_toArray, List.set_cons_zero, List.set_cons_succ]
      refine until_s0 8 (v := ?_) rfl (by kernel_rfl) (fun _ _ _ h => h) (Or.inl ⟨by rfl, ?_⟩) (by assumption) (fun h => by first | assumption | exact absurd (h : true = false) (by decide)) ?_
      rotate_left
      · intro w hSw; (try dsimp only at hSw); (try go_simp); (try with_reducible rfl)
      try simp only [Act.put, List.setIfInBounds_toArray, List.set_cons_zero, List.set_cons_succ]
      refine until_s0 9 (v := ?_) rfl (by kernel_rfl) (fun _ _ _ h => h) (Or.inl ⟨by rfl, ?_⟩) (by assumption) (fun h => by first | assumption | exact absurd (h : true = false) (by decide)) ?_
      rotate_left
      · intro w hSw; (try dsimp only at hSw); (try go_simp); (try with_reducible rfl)
      try simp only [Act.put, List.setIfInBounds_toArray, List.set_cons_zero, List.set_cons_succ]
      refine until_s0 10 (v := ?_) rfl (by kernel_rfl) (fun _ _ _ h => h) (Or.inl ⟨by rfl, ?_⟩) (by assumption) (fun h => by first | assumption | exact absurd (h : true = false) (by decide)) ?_
      rotate_left
      · intro w hSw; (try dsimp only at hSw); (try go_simp); (try with_reducible rfl)
      try simp only [Act.put, List.setIfInBounds_toArray, List.set_cons_zero, List.set_cons_succ]
      refine until_s0 11 (v := ?_) rfl (by kernel_rfl) (fun _ _ _ h => h) (Or.inl ⟨by rfl, ?_⟩) (by assumption) (fun h => by first | assumption | exact absurd (h : true = false) (by decide)) ?_
      rotate_left
      · intro w hSw; (try dsimp only at hSw); (try go_simp); (try with_reducible rfl)
      try simp only [Act.put, List.setIfInBounds_toArray, List.set_cons_zero, List.set_cons_succ]
      refine until_s0 12 (v := ?_) rfl (by kernel_rfl) (fun _ _ _ h => h) (Or.inl ⟨by rfl, ?_⟩) (by assumption) (fun h => by first | assumption | exact absurd (h : true = false) (by decide)) ?_
      rotate_left
      · intro w hSw; (try dsimp only at hSw); (try go_simp); (try with_reducible rfl)
      try simp only [Act.put, List.setIfInBounds_toArray, List.set_cons_zero, List.set_cons_succ]
      refine until_s0 13 (v := ?_) rfl (by kernel_rfl) (fun _ _ _ h => h) (Or.inl ⟨by rfl, ?_⟩) (by assumption) (fun h => by first | assumption | exact absurd (h : true = false) (by decide)) ?_
      rotate_left
      · intro w hSw; (try dsimp only at hSw); (try go_simp); (try with_reducible rfl)
      try simp only [Act.put, List.setIfInBounds_toArray, List.set_cons_zero, List.set_cons_succ]
      refine until_s0 14 (v := ?_) rfl (by kernel_rfl) (fun _ _ _ h => h) (Or.inl ⟨by rfl, ?_⟩) (by assumption) (fun h => by first | assumption | exact absurd (h : true = false) (by decide)) ?_
      rotate_left
      · intro w hSw; (try dsimp only at hSw); (try go_simp); (try with_reducible rfl)
      try simp only [Act.put, List.setIfInBounds_toArray, List.set_cons_zero, List.set_cons_succ]
      refine until_s0 15 (v := ?_) rfl (by kernel_rfl) (fun _ _ _ h => h) (Or.inl ⟨by rfl, ?_⟩) (by assumption) (fun h => by first | assumption | exact absurd (h : true = false) (by decide)) ?_
      rotate_left
      · intro w hSw; (try dsimp only at hSw); (try go_simp); (try with_reducible rfl)
      try simp only [Act.put, List.setIfInBounds_toArray, List.set_cons_zero, List.set_cons_succ]
      refine until_sole 16 rfl (by kernel_rfl) (by rfl) ?_
      intro K' hK
      refine wp_buildOne 79 84 _ rfl (qcells (x, y)) rfl Tryd.underlying79 hbP (by simp [qcells]) (by simp [qcells]) ?_
      have q5 := At.alloc_new W 84 (qcells (x, y)).toArray
      have hV := World.ownsRow.alloc hV (.cells (qcells (x, y)).toArray 84)
      have hB := hB.alloc (by omega) (.cells (qcells (x, y)).toArray 84)
      have hsz := hB.size
      generalize W.heap.size = p5 at q5 ⊢
      generalize W.alloc (.cells (qcells (x, y)).toArray 84) = W1 at q5 hV hB hsz ⊢
      refine hK _ _ (HCW.out _ (Fr.ofBelow hB)) (fun _ => trivial) ?_
      clear hK s0
      refine until_sole 17 rfl (by kernel_rfl) (by rfl) ?_
      intro K' hK
      refine wp_append_own _ _ _ _ rfl w.heap.size 84 iP _ 2 16 Tryd.underlying79 hiP zP0 zP1 zP2 rfl (by decide) _ i _ rfl hV ⟨p5, 0, none⟩ 1 1 (qcells (x, y)) rfl ?_ ?_ ?_ ?_ ?_ ?_ ?_
      case refine_1 => rfl
      case refine_2 => intro j u hj; rw [addr_add', Nat.zero_add]; exact (q5.cell j).trans hj
      case refine_3 => exact qs_one _
      case refine_4 => simp [maxLen]; omega
      case refine_5 => omega
      case refine_6 => omega
      intro v' W2 r' gr _
      have hB2 := hB.grown gr (by omega) (fun k hk => (hV.lt k hk).1)
      have s0 := HCW.out _ (Fr.ofBelow hB2)
      refine hK _ _ s0 (fun _ => trivial) ?_
      clear hK
      refine until_s0 18 (v := ?_) rfl (by kernel_rfl) (fun _ _ _ h => h) (Or.inl ⟨by rfl, ?_⟩) (by assumption) (fun h => by first | assumption | exact absurd (h : true = false) (by decide)) ?_
      rotate_left
      · intro w hSw; (try dsimp only at hSw); (try go_simp); (try with_reducible rfl)
      try simp only [Act.put, List.setIfInBounds_toArray, List.set_cons_zero, List.set_cons_succ]
      refine until_done (by kernel_rfl) ?_ _
      go_wp2_with fail
      refine ⟨⟨i + 1, by omega, by simp, ?_, hB2⟩, by simp only [intOf]; omega⟩
      rw [HS.out, qsC_app]
      exact r'
    · obtain rfl : i = n := by omega
      go_wp2_with fail
      go_ret
      exact ⟨_, rfl, hV, Fr.ofBelow hB⟩
end Go.Proofs.YtffhfmaphjjffaaDoor
namespace Go.Proofs.YtffhfmaphjjffaaDoor
open Go.RowKit Go.Lib Go.Joins Base Gf
set_option linter.unusedVariables false
set_option linter.unusedSimpArgs false

theorem own_atI {w : World} {b g n c : Nat} {e : TypeId} {xs : List Value} (h : w.ownsRow b e 1 (.slice (some ⟨g, 0, none⟩) n c) n xs) : ∃ R, At w g e (xs ++ R) := by
  obtain ⟨_, ⟨h', _⟩ | ⟨g', cap', cur, hv, hb', hg, _, _, _, ht⟩⟩ := h
  · simp at h'
  · simp only [Value.slice.injEq, Option.some.injEq, Addr.mk.injEq, and_true] at hv
    obtain ⟨rfl, _⟩ := hv
    refine ⟨cur.toList.drop (n * 1), ?_⟩
    rw [← ht, List.take_append_drop]
    unfold At; rw [hg]
/-- Bytes as whole numbers lie in a block, to be read. -/
def CW (w : World) (g : Nat) (c : List UInt8) : Prop := g < w.heap.size ∧ ∀ j u, (jcells c)[j]? = some u → w.cell? ⟨g, j, none⟩ = some u
theorem CW.keep {S : List Nat} {w w' : World} {g : Nat} {c : List UInt8} (h : CW w g c) (f : Fr S w w') (hS : g ∉ S) : CW w' g c := by
  refine ⟨Nat.lt_of_lt_of_le h.1 f.size, fun j u hu => ?_⟩
  rw [← h.2 j u hu]
  exact World.cell?_of_block (f.block g h.1 hS)
theorem CW.get {w : World} {g : Nat} {c : List UInt8} (h : CW w g c) (i : Nat) (hi : i < c.length) : w.cell? ⟨g, i, none⟩ = some (.int .i64 (bt (c.getD i 0))) := h.2 i _ (jcells_get c i hi)
theorem CW.ofAt {w : World} {g : Nat} {T : TypeId} {c : List UInt8} {R : List Value} (h : At w g T (jcells c ++ R)) : CW w g c := ⟨h.lt, fun j u hu => by
  rw [h.cell, List.getElem?_append_left (List.getElem?_eq_some_iff.1 hu).1, hu]⟩
theorem addP_len (a b : List UInt8) (h : a.length = b.length) : (addP a b).length = a.length := by simp [addP]; omega
theorem addP_get (a b : List UInt8) (i : Nat) (h1 : i < a.length) (h2 : i < b.length) : (addP a b).getD i 0 = a.getD i 0 ^^^ b.getD i 0 := by
  simp [addP, List.getD, List.getElem?_zipWith, h1, h2]
def mixP (T c : List UInt8) (k : Nat) : List UInt8 := (addP T c).take k ++ T.drop k
theorem mixP_len (T c : List UInt8) (k : Nat) (h : T.length = c.length) (hk : k ≤ T.length) : (mixP T c k).length = T.length := by simp [mixP, addP_len T c h]; omega
theorem mixP_get (T c : List UInt8) (k : Nat) (h : T.length = c.length) (hk : k < T.length) : (mixP T c k).getD k 0 = T.getD k 0 := by
  have ht : ((addP T c).take k).length = k := by simp [addP_len T c h]; omega
  rw [mixP, List.getD, List.getElem?_append_right (by omega), ht, Nat.sub_self, List.getElem?_drop]; rfl
theorem mixP_set (T c : List UInt8) (k : Nat) (h : T.length = c.length) (hk : k < T.length) : (mixP T c k).set k (T.getD k 0 ^^^ c.getD k 0) = mixP T c (k + 1) := by
  have ht : ((addP T c).take k).length = k := by simp [addP_len T c h]; omega
  rw [mixP, mixP, List.set_append_right _ _ (by omega), ht, Nat.sub_self, List.drop_eq_getElem_cons hk, List.set_cons_zero, take_snoc0 _ k (by rw [addP_len T c h]; exact hk), addP_get T c k hk (by omega)]
  simp
theorem jcells_set (c : List UInt8) (R : List Value) (k : Nat) (x : UInt8) (h : k < c.length) : (jcells c ++ R).set k (.int .i64 (bt x)) = jcells (c.set k x) ++ R := by
  rw [List.set_append_left _ _ (by rw [jcells_len]; exact h), jcells, jcells, List.map_set]
theorem getD_map1 (l : List (UInt8 × UInt8)) (i : Nat) (p : UInt8 × UInt8) (h : l[i]? = some p) : (l.map (·.1)).getD i 0 = p.1 ∧ (l.map (·.2)).getD i 0 = p.2 := by simp [List.getD, h]
set_option maxRecDepth 100000 in
set_option maxHeartbeats 8000000 in
theorem rthrough_any (l : List (UInt8 × UInt8)) (g cap : Nat) (h1 : 0 < l.length) (h2 : l.length ≤ 900) (w : World) (hc : ∀ (w' : World), Fr [] w w' → ∀ i p, l[i]? = some p → w'.cell? ⟨g, i * 2, none⟩ = some (.int .i64 (bt p.1)) ∧ w'.cell? ⟨g, i * 2 + 1, none⟩ = some (.int .i64 (bt p.2))) :
    Calls Tryd.prog 38 #[.slice (some ⟨g, 0, none⟩) l.length cap] w fun e w' => ∃ gs cs R, e = .returned (.slice (some ⟨gs, 0, none⟩) l.length cs) ∧ w.heap.size ≤ gs ∧ At w' gs 3 (jcells (thr (l.map (·.1)) (l.map (·.2))) ++ R) ∧ Fr [] w w' := by
  have hi7 : (Tryd.prog.info? 3).map (fun i => (i.zero, i.size, i.bytes)) = some (some (.int .i64 0), 1, 8) := by kernel_rfl
  obtain ⟨iI, hiI, zI0, zI1, zI2⟩ := info_parts hi7
  obtain ⟨xs, hxs⟩ : ∃ xs, xs = l.map (·.1) := ⟨_, rfl⟩
  obtain ⟨ys, hys⟩ : ∃ ys, ys = l.map (·.2) := ⟨_, rfl⟩
  have hxl : xs.length = l.length := by rw [hxs]; simp
  have hyl : ys.length = l.length := by rw [hys]; simp
  have hcx : ∀ (w' : World), Fr [] w w' → ∀ i, i < l.length → w'.cell? ⟨g, i * 2, none⟩ = some (.int .i64 (bt (xs.getD i 0))) ∧ w'.cell? ⟨g, i * 2 + 1, none⟩ = some (.int .i64 (bt (ys.getD i 0))) := fun w' f i hi => by
    have hp := List.getElem?_eq_getElem hi
    obtain ⟨e1, e2⟩ := getD_map1 l i _ hp
    rw [hxs, hys, e1, e2]
    exact hc w' f i _ hp
  rw [← hxs, ← hys]
  obtain ⟨n, hn⟩ : ∃ n, n = l.length := ⟨_, rfl⟩
  rw [← hn] at hcx hxl hyl h1 h2 ⊢
  have HX := Lib.hid (And.intro hxl (And.intro hyl hcx))
  clear hxs hys hxl hyl hcx hc hn
  go_enter Tryd.func38, Tryd.ntmps38
  go_wp2_with fail
  go_loopw [3, 4] (fun v3 v4 wr => ∃ i : Nat, i ≤ n ∧ v4 = .int .i64 i ∧ wr.ownsRow w.heap.size 3 1 v3 i (jcells (List.replicate i 0)) ∧ Below w.heap.size w wr) (fun _ v _ => n - (intOf v).toNat)
  case atStart => exact ⟨0, by omega, rfl, World.ownsRow_nil _ _ _ _, Below.refl _ _⟩
  case round =>
    obtain ⟨i, hi, rfl, hV, hB⟩ := hrel
    by_cases hl : i < n
    · have l1 : (i : Int) < n := by omega
      have hsz := hB.size
      have A6 := At.alloc_new wr 3 #[Value.int .i64 0]
      have hE : jcells (List.replicate (i + 1) 0) = jcells (List.replicate i 0) ++ [.int .i64 0] := by rw [List.replicate_succ', jcells, jcells, List.map_append]; rfl
      have HE := Lib.hid hE
      clear hE
      go_wp2_with (first
        | (at_builtin; refine wpList_append_own _ rfl _ _ _ rfl w.heap.size 3 iI (.int .i64 0) 1 8 Tryd.underlying51 hiI zI0 zI1 zI2 rfl (by decide) _ i _ rfl (World.ownsRow.alloc hV _) ⟨wr.heap.size, 0, none⟩ 1 1 [.int .i64 0] rfl rfl (by intro j u hj; rw [addr_add', Nat.zero_add]; exact (A6.cell j).trans hj) (by intro u hu; simp at hu; subst hu; rfl) (by simp [maxLen]; omega) (by omega) (by simp; omega) ?_; intro v7 w7 o7 gr7 _)
        | fail)
      refine ⟨⟨i + 1, by omega, by simp, by rw [HE.out]; exact o7, (hB.alloc (by omega) _).grown gr7 (by simp; omega) (fun k hk => (hV.lt k hk).1)⟩, by simp only [intOf]; omega⟩
    · obtain rfl : i = n := by omega
      obtain ⟨gs, cs, rfl⟩ := ownsRow_form hV h1
      obtain ⟨R, A0⟩ := own_atI hV
      have hgs := (hV.lt gs rfl).1
      have hF := Fr.ofBelow hB
      have e0 : thrT xs ys 0 = List.replicate i 0 := by rw [thrT, HX.out.1]
      rw [← e0] at A0
      clear hV hB e0
      go_wp2_with fail
      go_loopw [5, 6, 7, 8] (fun v5 _ _ _ wr => ∃ a : Nat, a ≤ i ∧ v5 = .int .i64 a ∧ At wr gs 3 (jcells (thrT xs ys a) ++ R) ∧ Fr [] w wr) (fun v _ _ _ _ => i - (intOf v).toNat)
      case atStart => exact ⟨0, by omega, rfl, A0, hF⟩
      case round =>
        clear A0 hF
        obtain ⟨a, ha, rfl, A0, hF⟩ := hrel
        by_cases hl2 : a < i
        · have l1 : (a : Int) < i := by omega
          obtain ⟨y, hy⟩ : ∃ y, y = ys.getD a 0 := ⟨_, rfl⟩
          have hcy := (HX.out.2.2 wr hF a hl2).2
          rw [← hy] at hcy
          have B0 := At.alloc_new wr 3 #[Value.int .i64 (bt y)]
          have hrs := A0.lt
          have HY := Lib.hid hy
          clear hy
          go_upto_region 10 with fail
          have A0 := A0.alloc (.cells #[Value.int .i64 (bt y)] 3)
          have hF := hF.trans (Fr.alloc [] wr (.cells #[Value.int .i64 (bt y)] 3))
          obtain ⟨gc, hgc⟩ : ∃ gc, gc = wr.heap.size := ⟨_, rfl⟩
          rw [← hgc] at B0 ⊢
          have hne : gc ≠ gs := by omega
          have hcw : CW (wr.alloc (.cells #[Value.int .i64 (bt y)] 3)) gc (cofT xs a y 0) := CW.ofAt (R := []) (by simpa [cofT, jcells] using B0)
          clear hgc B0
          generalize wr.alloc (.cells #[Value.int .i64 (bt y)] 3) = W1 at A0 hF hcw ⊢
          go_wp2_with fail
          have rel0 : ∃ j : Nat, j ≤ i ∧ Value.int .i64 0 = .int .i64 j ∧ (∃ gc' cc, Value.slice (some ⟨gc, 0, none⟩) 1 1 = .slice (some ⟨gc', 0, none⟩) (cofT xs a y j).length cc ∧ CW W1 gc' (cofT xs a y j) ∧ gc' ≠ gs) ∧ At W1 gs 3 (jcells (thrT xs ys a) ++ R) ∧ Fr [] w W1 := ⟨0, by omega, rfl, ⟨gc, 1, rfl, hcw, hne⟩, A0, hF⟩
          clear hcw hne A0 hF
          go_loopw [6, 7] (fun v6 v7 wr => ∃ j : Nat, j ≤ i ∧ v7 = .int .i64 j ∧ (∃ gc cc, v6 = .slice (some ⟨gc, 0, none⟩) (cofT xs a y j).length cc ∧ CW wr gc (cofT xs a y j) ∧ gc ≠ gs) ∧ At wr gs 3 (jcells (thrT xs ys a) ++ R) ∧ Fr [] w wr) (fun _ v _ => i - (intOf v).toNat)
          case atStart => exact rel0
          case round =>
            clear rel0
            obtain ⟨j, hj, rfl, ⟨gc, cc, rfl, hcw, hne⟩, A0, hF⟩ := hrel
            have hcl := cofT_len xs a y j
            by_cases hl3 : j < i
            · have l2 : (j : Int) < i := by omega
              obtain ⟨cl, hcld⟩ : ∃ cl, cl = (cofT xs a y j).length := ⟨_, rfl⟩
              rw [← hcld] at hcl
              by_cases hja : j = a
              · have b1 : ((j : Int) != a) = false := by simp [hja]
                have hco : cofT xs a y (j + 1) = cofT xs a y j := by rw [cofT, if_pos hja]
                have HC := Lib.hid (And.intro hco hcld)
                rw [← hcld]
                clear hja hcl hco hcld
                go_wp2_with fail
                exact ⟨⟨j + 1, by omega, by simp, ⟨gc, cc, by rw [HC.out.1, ← HC.out.2], by rw [HC.out.1]; exact hcw, hne⟩, A0, hF⟩, by simp only [intOf]; omega⟩
              · have b1 : ((j : Int) != a) = true := by simp; omega
                have hco : cofT xs a y (j + 1) = scaleP (cofT xs a y j) (xs.getD j 0) (ginv (xs.getD a 0 ^^^ xs.getD j 0)) := by rw [cofT, if_neg hja]
                obtain ⟨xj, hxj⟩ : ∃ x, x = xs.getD j 0 := ⟨_, rfl⟩
                obtain ⟨xa, hxa⟩ : ∃ x, x = xs.getD a 0 := ⟨_, rfl⟩
                have hcj := fun w' f => (HX.out.2.2 w' f j hl3).1
                have hca := fun w' f => (HX.out.2.2 w' f a hl2).1
                rw [← hxj] at hcj
                rw [← hxa] at hca
                rw [← hxj, ← hxa] at hco
                have rx := fun t => ib_xorB t xa xj
                have m1 := fun w => rinverse_any (xa ^^^ xj) w
                obtain ⟨v, hv⟩ : ∃ v, v = ginv (xa ^^^ xj) := ⟨_, rfl⟩
                rw [← hv] at m1 hco
                obtain ⟨co, hcod⟩ : ∃ co, co = cofT xs a y j := ⟨_, rfl⟩
                rw [← hcod] at hco hcld hcw
                have m2 := fun w' h => rscaled_any co xj v gc cc (by rw [← hcld, hcl]; split <;> omega) (by rw [← hcld, hcl]; split <;> omega) w' h
                rw [← hcld] at m2
                have HC := Lib.hid (And.intro hco (And.intro hcld hcod))
                rw [← hcod, ← hcld]
                clear hja hcl hco hcld hcod hxj hxa hv
                go_wp2_with fail
                refine wp_region_until (fun w' => w'.cell? ⟨g, j * 2, none⟩ = some (.int .i64 (bt xj)) ∧ w'.cell? ⟨g, a * 2, none⟩ = some (.int .i64 (bt xa))) (fun _ => True) 1000 (by rfl) ?_
                have hT0 : True := trivial
                have A0 := A0.drew
                have hcw := hcw.keep (Fr.drew [] _) (by simp)
                have hF := hF.trans (Fr.drew [] _)
                generalize wr.drew = W2 at A0 hcw hF ⊢
                have s0 := And.intro (hcj _ hF) (hca _ hF)
                refine until_s0 0 (v := ?_) rfl (by kernel_rfl) (fun _ _ _ h => h) (Or.inl ⟨by rfl, ?_⟩) (by assumption) (fun h => by first | assumption | exact absurd (h : true = false) (by decide)) ?_
                rotate_left
                · intro w hSw; (try dsimp only at hSw); (try go_simp); (try with_reducible rfl)
                try simp only [Act.put, List.setIfInBounds_toArray, List.set_cons_zero, List.set_cons_succ]
                refine until_s0 1 (v := ?_) rfl (by kernel_rfl) (fun _ _ _ h => h) (Or.inl ⟨by rfl, ?_⟩) (by assumption) (fun h => by first | assumption | exact absurd (h : true = false) (by decide)) ?_
                rotate_left
                · intro w hSw; (try dsimp only at hSw); (try go_simp); (try with_reducible rfl)
                try simp only [Act.put, List.setIfInBounds_toArray, List.set_cons_zero, List.set_cons_succ]
                refine until_s0 2 (v := ?_) rfl (by kernel_rfl) (fun _ _ _ h => h) (Or.inl ⟨by rfl, ?_⟩) (by assumption) (fun h => by first | assumption | exact absurd (h : true = false) (by decide)) ?_
                rotate_left
                · intro w hSw; (try dsimp only at hSw); (try go_simp); (try with_reducible rfl)
                try simp only [Act.put, List.setIfInBounds_toArray, List.set_cons_zero, List.set_cons_succ]
                refine until_s0 3 (v := ?_) rfl (by kernel_rfl) (fun _ _ _ h => h) (Or.inl ⟨by rfl, ?_⟩) (by assumption) (fun h => by first | assumption | exact absurd (h : true = false) (by decide)) ?_
                rotate_left
                · intro w hSw; (try dsimp only at hSw); (try go_simp); (try with_reducible rfl)
                try simp only [Act.put, List.setIfInBounds_toArray, List.set_cons_zero, List.set_cons_succ]
                refine until_s0 4 (v := ?_) rfl (by kernel_rfl) (fun _ _ _ h => h) (Or.inl ⟨by rfl, ?_⟩) (by assumption) (fun h => by first | assumption | exact absurd (h : true = false) (by decide)) ?_
                rotate_left
                · intro w hSw; (try dsimp only at hSw); (try go_simp); (try with_reducible rfl)
                try simp only [Act.put, List.setIfInBounds_toArray, List.set_cons_zero, List.set_cons_succ]
                refine until_s0 5 (v := ?_) rfl (by kernel_rfl) (fun _ _ _ h => h) (Or.inl ⟨by rfl, ?_⟩) (by assumption) (fun h => by first | assumption | exact absurd (h : true = false) (by decide)) ?_
                rotate_left
                · intro w hSw; (try dsimp only at hSw); (try go_simp); (try with_reducible rfl)
                try simp only [Act.put, List.setIfInBounds_toArray, List.set_cons_zero, List.set_cons_succ]
                refine until_s0 6 (v := ?_) rfl (by kernel_rfl) (fun _ _ _ h => h) (Or.inl ⟨by rfl, ?_⟩) (by assumption) (fun h => by first | assumption | exact absurd (h : true = false) (by decide)) ?_
                rotate_left
                · intro w hSw; (try dsimp only at hSw); (try go_simp); (try with_reducible rfl)
                try simp only [Act.put, List.setIfInBounds_toArray, List.set_cons_zero, List.set_cons_succ]
                refine until_s0 7 (v := ?_) rfl (by kernel_rfl) (fun _ _ _ h => h) (Or.inl ⟨by rfl, ?_⟩) (by assumption) (fun h => by first | assumption | exact absurd (h : true = false) (by decide)) ?_
                rotate_left
                · intro w hSw; (try dsimp only at hSw); (try go_simp); (try with_reducible rfl)
                try simp only [Act.put, List.setIfInBounds_toArray, List.set_cons_zero, List.set_cons_succ]
                refine until_s0 8 (v := ?_) rfl (by kernel_rfl) (fun _ _ _ h => h) (Or.inl ⟨by rfl, ?_⟩) (by assumption) (fun h => by first | assumption | exact absurd (h : true = false) (by decide)) ?_
                rotate_left
                · intro w hSw; (try dsimp only at hSw); (try go_simp); (try with_reducible rfl)
                try simp only [Act.put, List.setIfInBounds_toArray, List.set_cons_zero, List.set_cons_succ]
                refine until_s0 9 (v := ?_) rfl (by kernel_rfl) (fun _ _ _ h => h) (Or.inl ⟨by rfl, ?_⟩) (by assumption) (fun h => by first | assumption | exact absurd (h : true = false) (by decide)) ?_
                rotate_left
                · intro w hSw; (try dsimp only at hSw); (try go_simp); (try with_reducible rfl)
                try simp only [Act.put, List.setIfInBounds_toArray, List.set_cons_zero, List.set_cons_succ]
                refine until_s0 10 (v := ?_) rfl (by kernel_rfl) (fun _ _ _ h => h) (Or.inl ⟨by rfl, ?_⟩) (by assumption) (fun h => by first | assumption | exact absurd (h : true = false) (by decide)) ?_
                rotate_left
                · intro w hSw; (try dsimp only at hSw); (try go_simp); (try with_reducible rfl)
                try simp only [Act.put, List.setIfInBounds_toArray, List.set_cons_zero, List.set_cons_succ]
                refine until_s0 11 (v := ?_) rfl (by kernel_rfl) (fun _ _ _ h => h) (Or.inl ⟨by rfl, ?_⟩) (by assumption) (fun h => by first | assumption | exact absurd (h : true = false) (by decide)) ?_
                rotate_left
                · intro w hSw; (try dsimp only at hSw); (try go_simp); (try with_reducible rfl)
                try simp only [Act.put, List.setIfInBounds_toArray, List.set_cons_zero, List.set_cons_succ]
                refine until_s0 12 (v := ?_) rfl (by kernel_rfl) (fun _ _ _ h => h) (Or.inl ⟨by rfl, ?_⟩) (by assumption) (fun h => by first | assumption | exact absurd (h : true = false) (by decide)) ?_
                rotate_left
                · intro w hSw; (try dsimp only at hSw); (try go_simp); (try with_reducible rfl)
                try simp only [Act.put, List.setIfInBounds_toArray, List.set_cons_zero, List.set_cons_succ]
                refine until_s0 13 (v := ?_) rfl (by kernel_rfl) (fun _ _ _ h => h) (Or.inl ⟨by rfl, ?_⟩) (by assumption) (fun h => by first | assumption | exact absurd (h : true = false) (by decide)) ?_
                rotate_left
                · intro w hSw; (try dsimp only at hSw); (try go_simp); (try with_reducible rfl)
                try simp only [Act.put, List.setIfInBounds_toArray, List.set_cons_zero, List.set_cons_succ]
                refine until_s0 14 (v := ?_) rfl (by kernel_rfl) (fun _ _ _ h => h) (Or.inl ⟨by rfl, ?_⟩) (by assumption) (fun h => by first | assumption | exact absurd (h : true = false) (by decide)) ?_
                rotate_left
                · intro w hSw; (try dsimp only at hSw); (try go_simp); (try with_reducible rfl)
                try simp only [Act.put, List.setIfInBounds_toArray, List.set_cons_zero, List.set_cons_succ]
                refine until_s0 15 (v := ?_) rfl (by kernel_rfl) (fun _ _ _ h => h) (Or.inl ⟨by rfl, ?_⟩) (by assumption) (fun h => by first | assumption | exact absurd (h : true = false) (by decide)) ?_
                rotate_left
                · intro w hSw; (try dsimp only at hSw); (try go_simp); (try with_reducible rfl)
                try simp only [Act.put, List.setIfInBounds_toArray, List.set_cons_zero, List.set_cons_succ]
                refine until_s0 16 (v := ?_) rfl (by kernel_rfl) (fun _ _ _ h => h) (Or.inl ⟨by rfl, ?_⟩) (by assumption) (fun h => by first | assumption | exact absurd (h : true = false) (by decide)) ?_
                rotate_left
                · intro w hSw; (try dsimp only at hSw); (try go_simp); (try with_reducible rfl)
                try simp only [Act.put, List.setIfInBounds_toArray, List.set_cons_zero, List.set_cons_succ]
                refine until_sole 17 rfl (by kernel_rfl) (by rfl) ?_
                intro K' hK
                go_simp
                go_at_call 51
                refine (m1 _).mono ?_
                rintro _ w3 ⟨rfl, f3⟩
                have A0 := f3.keep A0 (by simp)
                have hcw := hcw.keep f3 (by simp)
                have hF := hF.trans f3
                go_wp2_with fail
                have s0 := And.intro (hcj _ hF) (hca _ hF)
                refine hK _ _ s0 (fun _ => trivial) ?_
                clear hK m1
                refine until_sole 18 rfl (by kernel_rfl) (by rfl) ?_
                intro K' hK
                go_simp
                go_at_call 50
                have hgs3 := A0.lt
                refine (m2 _ (fun w' f k u hu => by rw [← hcw.2 k u hu]; exact World.cell?_of_block (f.block gc hcw.1 (by simp)))).mono ?_
                rintro _ w4 ⟨v4, rfl, o4, f4⟩
                have A0 := f4.keep A0 (by simp)
                have hF := hF.trans f4
                go_wp2_with fail
                have s0 := And.intro (hcj _ hF) (hca _ hF)
                refine hK _ _ s0 (fun _ => trivial) ?_
                clear hK m2
                refine until_s0 19 (v := ?_) rfl (by kernel_rfl) (fun _ _ _ h => h) (Or.inl ⟨by rfl, ?_⟩) (by assumption) (fun h => by first | assumption | exact absurd (h : true = false) (by decide)) ?_
                rotate_left
                · intro w hSw; (try dsimp only at hSw); (try go_simp); (try with_reducible rfl)
                try simp only [Act.put, List.setIfInBounds_toArray, List.set_cons_zero, List.set_cons_succ]
                refine until_done (by kernel_rfl) ?_ _
                go_wp2_with fail
                obtain ⟨gc2, cc2, rfl⟩ := ownsRow_form o4 (by omega)
                obtain ⟨R2, A4⟩ := own_atI o4
                have hg2 := (o4.lt gc2 rfl).1
                exact ⟨⟨j + 1, by omega, by simp, ⟨gc2, cc2, by rw [HC.out.1, scaleP_len, HC.out.2.1], by rw [HC.out.1]; exact CW.ofAt A4, by omega⟩, A0, hF⟩, by simp only [intOf]; omega⟩
            · obtain rfl : j = i := by omega
              rw [if_pos hl2] at hcl
              obtain ⟨co, hcod⟩ : ∃ co, co = cofT xs a y j := ⟨_, rfl⟩
              rw [← hcod] at hcl hcw ⊢
              obtain ⟨T, hTd⟩ : ∃ T, T = thrT xs ys a := ⟨_, rfl⟩
              have hTl : T.length = j := by rw [hTd, thrT_len xs ys a (by have := HX.out.1; omega)]; exact HX.out.1
              have hnext : thrT xs ys (a + 1) = addP T co := by rw [thrT, ← HY.out, HX.out.1, ← hTd, hcod]
              rw [← hTd] at A0
              have HT := Lib.hid (And.intro hTl (And.intro hcl hnext))
              rw [hcl]
              clear hcl hcod hTd hTl hnext hl3
              go_wp2_with fail
              have rel1 : ∃ k : Nat, k ≤ j ∧ Value.int .i64 0 = .int .i64 k ∧ At wr gs 3 (jcells (mixP T co k) ++ R) ∧ CW wr gc co ∧ Fr [] w wr := ⟨0, by omega, rfl, by simpa [mixP] using A0, hcw, hF⟩
              clear A0 hcw hF
              go_loopw [8] (fun v wr => ∃ k : Nat, k ≤ j ∧ v = .int .i64 k ∧ At wr gs 3 (jcells (mixP T co k) ++ R) ∧ CW wr gc co ∧ Fr [] w wr) (fun v _ => j - (intOf v).toNat)
              case atStart => exact rel1
              case round =>
                clear rel1
                obtain ⟨k, hk, rfl, A0, hcw, hF⟩ := hrel
                by_cases hl4 : k < j
                · have l3 : (k : Int) < j := by omega
                  obtain ⟨hTl, hcl, hnext⟩ := HT.out
                  obtain ⟨u, hu⟩ : ∃ u, u = T.getD k 0 := ⟨_, rfl⟩
                  obtain ⟨z, hz⟩ : ∃ z, z = co.getD k 0 := ⟨_, rfl⟩
                  have c1 : wr.cell? ⟨gs, k, none⟩ = some (.int .i64 (bt u)) := by
                    have := (CW.ofAt A0).get k (by rw [mixP_len T co k (by omega) (by omega)]; omega)
                    rwa [mixP_get T co k (by omega) (by omega), ← hu] at this
                  have c2 := hcw.get k (by omega)
                  rw [← hz] at c2
                  have fz := A0.frozen k
                  have hset : (jcells (mixP T co k) ++ R).set k (.int .i64 (bt (u ^^^ z))) = jcells (mixP T co (k + 1)) ++ R := by
                    rw [jcells_set _ _ _ _ (by rw [mixP_len T co k (by omega) (by omega)]; omega), hu, hz, mixP_set T co k (by omega) (by omega)]
                  have rx := fun t => ib_xorB t u z
                  have HE := Lib.hid hset
                  clear hset hTl hcl hnext hu hz
                  go_wp2_with fail
                  refine wp_region_until (fun w' => w'.cell? ⟨gc, k, none⟩ = some (.int .i64 (bt z))) (fun w' => w'.cell? ⟨gs, k, none⟩ = some (.int .i64 (bt u))) 12 (by rfl) ?_
                  have s0 : wr.drew.cell? ⟨gc, k, none⟩ = some (.int .i64 (bt z)) := c2
                  have s1 : wr.drew.cell? ⟨gs, k, none⟩ = some (.int .i64 (bt u)) := c1
                  have s1' := fun (_ : (false = false)) => s1
                  have A0 := A0.drew
                  have hcw := hcw.keep (Fr.drew [] _) (by simp)
                  have hF := hF.trans (Fr.drew [] _)
                  have fz := A0.frozen k
                  generalize wr.drew = W5 at A0 hcw hF s0 s1 s1' fz ⊢
                  refine until_s0 0 (v := ?_) rfl (by kernel_rfl) (fun _ _ _ h => h) (Or.inl ⟨by rfl, ?_⟩) (by assumption) (fun h => by first | assumption | exact absurd (h : true = false) (by decide)) ?_
                  rotate_left
                  · intro w hSw; (try dsimp only at hSw); (try go_simp); (try with_reducible rfl)
                  try simp only [Act.put, List.setIfInBounds_toArray, List.set_cons_zero, List.set_cons_succ]
                  refine until_s0 1 (v := ?_) rfl (by kernel_rfl) (fun _ _ _ h => h) (Or.inl ⟨by rfl, ?_⟩) (by assumption) (fun h => by first | assumption | exact absurd (h : true = false) (by decide)) ?_
                  rotate_left
                  · intro w hSw; (try dsimp only at hSw); (try go_simp); (try with_reducible rfl)
                  try simp only [Act.put, List.setIfInBounds_toArray, List.set_cons_zero, List.set_cons_succ]
                  refine until_s0 2 (v := ?_) rfl (by kernel_rfl) (fun _ _ _ h => h) (Or.inl ⟨by rfl, ?_⟩) (by assumption) (fun h => by first | assumption | exact absurd (h : true = false) (by decide)) ?_
                  rotate_left
                  · intro w hSw; (try dsimp only at hSw); (try go_simp); (try with_reducible rfl)
                  try simp only [Act.put, List.setIfInBounds_toArray, List.set_cons_zero, List.set_cons_succ]
                  refine until_s0 3 (v := ?_) rfl (by kernel_rfl) (fun _ _ _ h => h) (Or.inl ⟨by rfl, ?_⟩) (by assumption) (fun h => by first | assumption | exact absurd (h : true = false) (by decide)) ?_
                  rotate_left
                  · intro w hSw; (try dsimp only at hSw); (try go_simp); (try with_reducible rfl)
                  try simp only [Act.put, List.setIfInBounds_toArray, List.set_cons_zero, List.set_cons_succ]
                  refine until_s0 4 (v := ?_) rfl (by kernel_rfl) (fun _ _ _ h => h) (Or.inl ⟨by rfl, ?_⟩) (by assumption) (fun h => by first | assumption | exact absurd (h : true = false) (by decide)) ?_
                  rotate_left
                  · intro w hSw; (try dsimp only at hSw); (try go_simp); (try with_reducible rfl)
                  try simp only [Act.put, List.setIfInBounds_toArray, List.set_cons_zero, List.set_cons_succ]
                  refine until_s1 5 (v := ?_) rfl (by kernel_rfl) (fun _ _ _ h => h) (Or.inl ⟨by rfl, ?_⟩) (by assumption) (fun h => by first | assumption | exact absurd (h : true = false) (by decide)) ?_
                  rotate_left
                  · intro w hSw; (try dsimp only at hSw); (try go_simp); (try with_reducible rfl)
                  try simp only [Act.put, List.setIfInBounds_toArray, List.set_cons_zero, List.set_cons_succ]
                  refine until_s0 6 (v := ?_) rfl (by kernel_rfl) (fun _ _ _ h => h) (Or.inl ⟨by rfl, ?_⟩) (by assumption) (fun h => by first | assumption | exact absurd (h : true = false) (by decide)) ?_
                  rotate_left
                  · intro w hSw; (try dsimp only at hSw); (try go_simp); (try with_reducible rfl)
                  try simp only [Act.put, List.setIfInBounds_toArray, List.set_cons_zero, List.set_cons_succ]
                  refine until_s0 7 (v := ?_) rfl (by kernel_rfl) (fun _ _ _ h => h) (Or.inl ⟨by rfl, ?_⟩) (by assumption) (fun h => by first | assumption | exact absurd (h : true = false) (by decide)) ?_
                  rotate_left
                  · intro w hSw; (try dsimp only at hSw); (try go_simp); (try with_reducible rfl)
                  try simp only [Act.put, List.setIfInBounds_toArray, List.set_cons_zero, List.set_cons_succ]
                  refine until_s0 8 (v := ?_) rfl (by kernel_rfl) (fun _ _ _ h => h) (Or.inl ⟨by rfl, ?_⟩) (by assumption) (fun h => by first | assumption | exact absurd (h : true = false) (by decide)) ?_
                  rotate_left
                  · intro w hSw; (try dsimp only at hSw); (try go_simp); (try with_reducible rfl)
                  try simp only [Act.put, List.setIfInBounds_toArray, List.set_cons_zero, List.set_cons_succ]
                  refine until_s0 9 (v := ?_) rfl (by kernel_rfl) (fun _ _ _ h => h) (Or.inl ⟨by rfl, ?_⟩) (by assumption) (fun h => by first | assumption | exact absurd (h : true = false) (by decide)) ?_
                  rotate_left
                  · intro w hSw; (try dsimp only at hSw); (try go_simp); (try with_reducible rfl)
                  try simp only [Act.put, List.setIfInBounds_toArray, List.set_cons_zero, List.set_cons_succ]
                  refine until_s0 10 (v := ?_) rfl (by kernel_rfl) (fun _ _ _ h => h) (Or.inl ⟨by rfl, ?_⟩) (by assumption) (fun h => by first | assumption | exact absurd (h : true = false) (by decide)) ?_
                  rotate_left
                  · intro w hSw; (try dsimp only at hSw); (try go_simp); (try with_reducible rfl)
                  try simp only [Act.put, List.setIfInBounds_toArray, List.set_cons_zero, List.set_cons_succ]
                  refine until_s0 11 (v := ?_) rfl (by kernel_rfl) (fun _ _ _ h => h) (Or.inl ⟨by rfl, ?_⟩) (by assumption) (fun h => by first | assumption | exact absurd (h : true = false) (by decide)) ?_
                  rotate_left
                  · intro w hSw; (try dsimp only at hSw); (try go_simp); (try with_reducible rfl)
                  try simp only [Act.put, List.setIfInBounds_toArray, List.set_cons_zero, List.set_cons_succ]
                  refine until_sole 12 rfl (by kernel_rfl) (by rfl) ?_
                  intro K' hK
                  go_simp
                  have f6 := Fr.setCell [gs] W5 ⟨gs, k, none⟩ (.int .i64 (bt (u ^^^ z))) (.inl (by simp))
                  have A0 := A0.setCell k (.int .i64 (bt (u ^^^ z)))
                  rw [HE.out] at A0
                  have hcw := hcw.keep f6 (by simp; exact hne)
                  have hF := hF.new f6 (by simp; exact hgs)
                  have s0 : (W5.setCell ⟨gs, k, none⟩ (.int .i64 (bt (u ^^^ z)))).cell? ⟨gc, k, none⟩ = some (.int .i64 (bt z)) := by
                    rw [World.cell?_of_block (f6.block gc (by have := hcw.1; simpa using this) (by simp; exact hne))]; exact ‹W5.cell? ⟨gc, k, none⟩ = some (.int .i64 (bt z))›
                  refine hK _ _ s0 (fun h => absurd (h : true = false) (by decide)) ?_
                  clear hK s1 s1' f6 fz
                  skip
                  refine until_done (by kernel_rfl) ?_ _
                  go_wp2_with fail
                  exact ⟨⟨k + 1, by omega, by simp, A0, hcw, hF⟩, by simp only [intOf]; omega⟩
                · obtain rfl : k = j := by omega
                  obtain ⟨hTl, hcl, hnext⟩ := HT.out
                  have hmix : mixP T co k = thrT xs ys (a + 1) := by
                    rw [hnext, mixP, List.take_of_length_le (by rw [addP_len _ _ (by omega)]; omega), List.drop_of_length_le (by omega), List.append_nil]
                  rw [hmix] at A0
                  clear hTl hcl hnext hmix
                  go_wp2_with fail
                  exact ⟨⟨a + 1, by omega, by simp, A0, hF⟩, by simp only [intOf]; omega⟩
        · obtain rfl : a = i := by omega
          go_wp2_with fail
          go_ret
          exact ⟨gs, cs, R, rfl, hgs, by rw [thr, HX.out.1]; exact A0, hF⟩
end Go.Proofs.YtffhfmaphjjffaaDoor
