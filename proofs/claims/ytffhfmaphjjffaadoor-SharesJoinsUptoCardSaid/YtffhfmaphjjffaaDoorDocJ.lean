/- Join of the document. -/
import Derived.Test.YtffhfmaphjjffaaDoorDoc1
import Derived.Test.YtffhfmaphjjffaaDoorJnMixP
import Derived.Test.YtffhfmaphjjffaaDoorUntil
namespace Go.Proofs.YtffhfmaphjjffaaDoor
open Go.RowKit Go.Lib Go.Joins Base Gf
set_option linter.unusedVariables false
set_option linter.unusedSimpArgs false

theorem bt_inj2 {x y : UInt8} (h : bt x = bt y) : x = y := by unfold bt at h; exact UInt8.toNat_inj.1 (by omega)
theorem pairs_fst (ps : List ByteArray) (k j : Nat) : (pairsOf (ps.take k) j).map (·.1) = xsOf ((ps.map ptO).take k) := by
  simp [pairsOf, xsOf, ptO, ← List.map_take]
theorem valD_get (l : List UInt8) (j : Nat) (hj : j < 32) : (valD l).getD j 0 = l.getD (11 + j) 0 := by
  simp [valD, List.getD, List.getElem?_take, hj, List.getElem?_drop]
theorem pairs_snd (ps : List ByteArray) (k j : Nat) (hj : j < 32) : (pairsOf (ps.take k) j).map (·.2) = ysOf ((ps.map ptO).take k) j := by
  simp only [pairsOf, ysOf, ← List.map_take, List.map_map]
  apply List.map_congr_left
  intro s _
  exact (valD_get s.data.toList j hj).symm
theorem pairs_len (ps : List ByteArray) (k j : Nat) (h : k ≤ ps.length) : (pairsOf (ps.take k) j).length = k := by simp [pairsOf]; omega
/-- Points that the document built, as whole rows. -/
theorem q_cells {w : World} {b g c n : Nat} {e : TypeId} {l : List (UInt8 × UInt8)} (h : w.ownsRow b e 2 (.slice (some ⟨g, 0, none⟩) n c) n (qsC l)) (w' : World) (f : Fr [] w w') : ∀ i p, l[i]? = some p → w'.cell? ⟨g, i * 2, none⟩ = some (.int .i64 (bt p.1)) ∧ w'.cell? ⟨g, i * 2 + 1, none⟩ = some (.int .i64 (bt p.2)) := fun i p hp => by
  have h' := own_fr h f (by simp)
  obtain ⟨e1, e2⟩ := qsC_get l i p hp
  have a1 := World.ownsRow.cells h' rfl (i * 2) _ e1
  have a2 := World.ownsRow.cells h' rfl (i * 2 + 1) _ e2
  rw [addr_add', Nat.zero_add] at a1 a2
  exact ⟨a1, a2⟩
set_option maxRecDepth 100000 in
set_option maxHeartbeats 8000000 in
theorem rjoin_any (ps : List ByteArray) (ad : Option Addr) (cap : Nat) (hn : ps.length ≤ 4194304) (w : World) (hP : Powers w) (hQ : RefRoots w) (hT : Texts w ad ps) :
    Calls Tryd.prog 23 #[.slice ad ps.length cap] w fun e w' => e = .returned (.tuple #[.string ⟨(joinV ps).1.toArray⟩, .int .i64 (joinV ps).2]) ∧ Fr [] w w' := by
  have hi6 : (Tryd.prog.info? 5).map (fun i => (i.zero, i.size, i.bytes)) = some (some (.int .u8 0), 1, 1) := by kernel_rfl
  obtain ⟨iB, hiB, zB0, zB1, zB2⟩ := info_parts hi6
  have cT := rtog_any ps ad cap hn w hP hQ hT
  by_cases h0 : ps = []
  · have hl : ps.length = 0 := by rw [h0]; rfl
    have hE : togE ps = 0 := by rw [h0]; decide
    rw [join_none hE h0, hl]
    clear cT hE
    go_enter Tryd.func23, Tryd.ntmps23
    go_wp2_with fail
    go_ret2
    exact ⟨rfl, Fr.refl _ _⟩
  · have hl0 : 0 < ps.length := Nat.pos_of_ne_zero (fun h => h0 (List.length_eq_zero_iff.1 h))
    have b0 : ((ps.length : Int) == 0) = false := by simp; omega
    by_cases hE : togE ps = 0
    · obtain ⟨z1, z2, z3⟩ := togE_zero hE
      have h51 : ∀ s ∈ ps, s.size = 51 := fun s hs => by simpa using (isE_parts _ (z1 s hs)).1
      obtain ⟨s, hs⟩ : ∃ s, ps[0]? = some s := ⟨_, List.getElem?_eq_getElem hl0⟩
      have hss := h51 s (List.mem_of_getElem? hs)
      have hkr : 1 ≤ (kinO s).1 ∧ (kinO s).1 ≤ 16 := by
        have := isE_parts _ (z1 s (List.mem_of_getElem? hs))
        exact ⟨this.2.2.2.2.2.1, this.2.2.2.2.2.2⟩
      obtain ⟨k, hk⟩ : ∃ k, k = (kinO s).1 := ⟨_, rfl⟩
      rw [← hk] at hkr
      have i2 : 2 < s.size := by omega
      obtain ⟨kb, hkb⟩ : ∃ kb, kb = s.data.toList.getD 2 0 := ⟨_, rfl⟩
      have g2 : s[2] = kb := by rw [hkb]; exact sget rfl i2
      have hkn : (kb.toNat : Int) = k := by rw [hk, hkb]; rfl
      obtain ⟨g, o, rfl, hc⟩ := hT 0 s hs
      have hcs : ∀ w' : World, Fr [] w w' → w'.cell? ⟨g, o, none⟩ = some (.string s) := fun w' f => by
        obtain ⟨g', o', e', h⟩ := (hT.keep f) 0 s hs
        cases e'; exact h
      obtain ⟨R, hRd⟩ : ∃ R, R = joinV ps := ⟨_, rfl⟩
      obtain ⟨F, hF0⟩ : ∃ F, F = (ps.map ptO).take k := ⟨_, rfl⟩
      have hF32 : ∀ p ∈ F, p.2.length = 32 := fun p hp => by
        rw [hF0] at hp
        obtain ⟨t, ht, rfl⟩ := List.mem_map.1 (List.mem_of_mem_take hp)
        exact valD_len _ (z1 t ht)
      have hR1 : ps.length < k → R = ([], 262) := fun h => by rw [hRd]; exact join_few hE s hs (by rw [← hk]; exact h)
      have hR2 : ¬ ps.length < k → (∀ j, j < 32 → ∀ i t, k ≤ i → ps[i]? = some t → (atR F (t.data.toList.getD 1 0)).getD j 0 = t.data.toList.getD (11 + j) 0) → R = (atR F 0, 0) := fun h ha => by
        rw [hRd, hF0, hk]
        refine join_ok hE s hs (by rw [← hk]; exact h) (fun p hp => ?_)
        rw [← hk] at hp ⊢
        rw [← hF0]
        obtain ⟨a, hla, rfl⟩ := List.mem_iff_getElem.1 hp
        rw [List.length_drop, List.length_map] at hla
        rw [List.getElem_drop, List.getElem_map]
        have ht := List.getElem?_eq_getElem (show k + a < ps.length by omega)
        refine list_getD_ext _ _ (by rw [atR_len F _ hF32]; exact (valD_len _ (z1 _ (List.mem_of_getElem? ht))).symm) fun j hj => ?_
        rw [atR_len F _ hF32] at hj
        show (atR F ((ps[k + a]).data.toList.getD 1 0)).getD j 0 = (valD (ps[k + a]).data.toList).getD j 0
        rw [valD_get _ j hj]
        exact ha j hj (k + a) _ (by omega) ht
      have hR3 : ¬ ps.length < k → ∀ j, j < 32 → ∀ i t, k ≤ i → ps[i]? = some t → (atR F (t.data.toList.getD 1 0)).getD j 0 ≠ t.data.toList.getD (11 + j) 0 → R = ([], 260) := fun h j hj i t hi ht hne => by
        rw [hRd]
        refine join_split hE s hs (by rw [← hk]; exact h) (fun hall => hne ?_)
        rw [← hk, ← hF0] at hall
        have hil := (List.getElem?_eq_some_iff.1 ht).1
        have hm : ptO t ∈ (ps.map ptO).drop k := List.mem_of_getElem? (i := i - k) (by rw [List.getElem?_drop, show k + (i - k) = i by omega, List.getElem?_map, ht]; rfl)
        have := hall _ hm
        rw [← valD_get t.data.toList j hj]
        exact congrArg (fun l : List UInt8 => l.getD j 0) this
      rw [← hRd]
      have hthr : k ≤ ps.length → ∀ j, j < 32 → (pairsOf (ps.take k) j).map (·.1) = xsOf F ∧ (pairsOf (ps.take k) j).map (·.2) = ysOf F j ∧ (pairsOf (ps.take k) j).length = k := fun h j hj => by
        rw [hF0]; exact ⟨pairs_fst ps k j, pairs_snd ps k j hj, pairs_len ps k j h⟩
      have hFl : k ≤ ps.length → F.length = k := fun h => by rw [hF0]; simp; omega
      have hev : ∀ x j, j < 32 → ev (thr (xsOf F) (ysOf F j)) x = (atR F x).getD j 0 := fun x j hj => (atR_thr F hF32 x j hj).symm
      rw [hE] at cT
      have HR := Lib.hid (And.intro hR1 (And.intro hR2 hR3))
      have HT := Lib.hid (And.intro hthr (And.intro hFl (And.intro hev (And.intro h51 hF32))))
      have hX0 := atR_len F 0 hF32
      clear hE z1 z2 z3 hs hk hkb hRd hF0 hF32 hR1 hR2 hR3 hthr hFl hev h0
      by_cases hlt : ps.length < k
      · have l1 : (ps.length : Int) < k := by omega
        have l2 : (0 : Int) < ps.length := by omega
        have HRR := Lib.hid (HR.out.1 hlt)
        clear hlt
        go_enter Tryd.func23, Tryd.ntmps23
        go_upto_region 6 with (first
          | (go_at_call 37; refine cT.mono ?_; clear cT; rintro e w1 ⟨rfl, f1⟩; have hc1 := hcs _ f1)
          | fail)
        go_wp2_with fail
        go_ret2
        exact ⟨by rw [HRR.out]; rfl, f1⟩
      · have l1 : ¬ (ps.length : Int) < k := by omega
        have l2 : (0 : Int) < ps.length := by omega
        have hkl : k ≤ ps.length := by omega
        have hR2 := HR.out.2.1 hlt
        have hR3 := HR.out.2.2 hlt
        have HR := Lib.hid (And.intro hR2 hR3)
        clear hR2 hR3
        go_enter Tryd.func23, Tryd.ntmps23
        go_upto_region 6 with (first
          | (go_at_call 37; refine cT.mono ?_; clear cT; rintro e w1 ⟨rfl, f1⟩; have hc1 := hcs _ f1)
          | fail)
        go_wp2_with fail
        clear hc1 hcs hc g2 hkn i2 hss b0 l1 h51 hlt
        have hsz1 := f1.size
        go_loopw [6, 7, 8, 9] (fun v6 v7 _ _ wr => ∃ j : Nat, j ≤ 32 ∧ v7 = .int .i64 j ∧ wr.ownsRow w.heap.size 5 1 v6 j (byteCells ((atR F 0).take j)) ∧ (∀ j', j' < j → ∀ i t, k ≤ i → ps[i]? = some t → (atR F (t.data.toList.getD 1 0)).getD j' 0 = t.data.toList.getD (11 + j') 0) ∧ Fr [] w wr) (fun _ v _ _ _ => 32 - (intOf v).toNat)
        case atStart => exact ⟨0, by omega, rfl, World.ownsRow_nil _ _ _ _, fun j' h => by omega, f1⟩
        case round =>
          clear f1 hsz1
          obtain ⟨j, hj, rfl, hM, hall, hF⟩ := hrel
          by_cases hl : j < 32
          · have l3 : (j : Int) < 32 := by omega
            obtain ⟨y1, y2, y3⟩ := HT.out.1 hkl j hl
            have m1 := fun w' f => rpoints_any ps (some ⟨g, o, none⟩) cap k j hkl (by omega) hl HT.out.2.2.2.1 w' (hT.keep f)
            obtain ⟨P, hPd⟩ : ∃ P, P = pairsOf (ps.take k) j := ⟨_, rfl⟩
            rw [← hPd] at y1 y2 y3 m1
            obtain ⟨c, hcd⟩ : ∃ c, c = thr (xsOf F) (ysOf F j) := ⟨_, rfl⟩
            have hcl : c.length = k := by rw [hcd, thr_len, xsOf_len, HT.out.2.1 hkl]
            have hcev : ∀ x, ev c x = (atR F x).getD j 0 := fun x => by rw [hcd]; exact HT.out.2.2.1 x j hl
            have m2 := fun (gp cp : Nat) w' h => rthrough_any P gp cp (by omega) (by omega) w' h
            rw [y1, y2, y3, ← hcd] at m2
            have HA := Lib.hid (And.intro hall (And.intro hcl hcev))
            have hszr := hF.size
            clear hall hcl hcev hcd hPd y1 y2 y3
            go_upto_region 14 with (first
              | (go_at_call 39; refine (m1 _ hF).mono ?_; clear m1; rintro e w2 ⟨v2, rfl, o2, f2⟩; obtain ⟨gp, cp, rfl⟩ := ownsRow_form o2 (by omega); have hM := own_fr hM f2 (by simp); have hF := hF.trans f2)
              | (go_at_call 38; refine (m2 gp cp _ (fun w' f => q_cells o2 w' f)).mono ?_; clear m2; rintro e w3 ⟨gs, cs, R2, rfl, hgs, A3, f3⟩; have hM := own_fr hM f3 (by simp); have hF := hF.trans f3)
              | fail)
            have hcw := CW.ofAt A3
            clear o2 A3 f2 f3 hgs
            go_wp2_with fail
            have rel0 : ∃ i : Nat, Value.int .i64 k = .int .i64 i ∧ k ≤ i ∧ i ≤ ps.length ∧ CW w3 gs c ∧ w3.ownsRow w.heap.size 5 1 u6 j (byteCells ((atR F 0).take j)) ∧ (∀ i' t, k ≤ i' → i' < i → ps[i']? = some t → (atR F (t.data.toList.getD 1 0)).getD j 0 = t.data.toList.getD (11 + j) 0) ∧ Fr [] w w3 := ⟨k, rfl, Nat.le_refl _, hkl, hcw, hM, fun i' t h1 h2 => by omega, hF⟩
            clear hcw hM hF
            go_loopw [9] (fun v9 wr => ∃ i : Nat, v9 = .int .i64 i ∧ k ≤ i ∧ i ≤ ps.length ∧ CW wr gs c ∧ wr.ownsRow w.heap.size 5 1 u6 j (byteCells ((atR F 0).take j)) ∧ (∀ i' t, k ≤ i' → i' < i → ps[i']? = some t → (atR F (t.data.toList.getD 1 0)).getD j 0 = t.data.toList.getD (11 + j) 0) ∧ Fr [] w wr) (fun v _ => ps.length - (intOf v).toNat)
            case atStart => exact rel0
            case round =>
              clear rel0
              obtain ⟨i, rfl, hki, hil, hcw, hM, hall, hF⟩ := hrel
              by_cases hl2 : i < ps.length
              · have l4 : (i : Int) < ps.length := by omega
                obtain ⟨t, ht⟩ : ∃ t, ps[i]? = some t := ⟨_, List.getElem?_eq_getElem hl2⟩
                have hts := HT.out.2.2.2.1 t (List.mem_of_getElem? ht)
                have hct : ∀ w' : World, Fr [] w w' → w'.cell? ⟨g, o + i, none⟩ = some (.string t) := fun w' f => by
                  obtain ⟨g', o', e', h⟩ := (hT.keep f) i t ht
                  cases e'; exact h
                have i1 : 1 < t.size := by omega
                have i2 : 11 + j < t.size := by omega
                obtain ⟨x, hx⟩ : ∃ x, x = t.data.toList.getD 1 0 := ⟨_, rfl⟩
                obtain ⟨y, hy⟩ : ∃ y, y = t.data.toList.getD (11 + j) 0 := ⟨_, rfl⟩
                have g1 : t[1] = x := by rw [hx]; exact sget rfl i1
                have g2 : t[11 + j] = y := by rw [hy]; exact sget rfl i2
                obtain ⟨kk, hkk⟩ : ∃ kk, kk = 11 + j := ⟨_, rfl⟩
                have w11 : IntKind.i64.wrap (11 + (j : Int)) = (kk : Int) := by rw [IntWalk.i64_in _ (by omega)]; omega
                have i3 : kk < t.size := by omega
                have i4 : (kk : Int) < 51 := by omega
                have g3 : t[kk] = y := by subst hkk; exact g2
                have m3 := fun w' h => rvalue_any c x gs cs (by have := HA.out.2.1; omega) w' h
                rw [HA.out.2.1] at m3
                have hz := HA.out.2.2 x
                obtain ⟨z, hzd⟩ : ∃ z, z = ev c x := ⟨_, rfl⟩
                rw [← hzd] at m3 hz
                have HTT := Lib.hid (And.intro ht (And.intro hx (And.intro hy (And.intro hall hz))))
                clear ht hx hy g2 i2 hkk hall hzd hz
                go_wp2_with fail
                refine wp_region_until (fun w' => w'.cell? ⟨g, o + i, none⟩ = some (.string t)) (fun _ => True) 1000 (by rfl) ?_
                have hT0 : True := trivial
                have hM := own_fr hM (Fr.drew [] _) (by simp)
                have hcw := hcw.keep (Fr.drew [] _) (by simp)
                have hF := hF.trans (Fr.drew [] _)
                generalize wr.drew = W4 at hM hcw hF ⊢
                have s0 := hct _ hF
                by_cases hzy : z = y
                · have b1 : (bt z != (y.toNat : Int)) = false := by rw [hzy]; simp [bt]
                  have HZ := Lib.hid hzy
                  clear hzy
                  refine until_s0 0 (v := ?_) rfl (by kernel_rfl) (fun _ _ _ h => h) (Or.inl ⟨by rfl, ?_⟩) (by assumption) (fun h => by first | assumption | exact absurd (h : true = false) (by decide)) ?_
                  rotate_left
                  · intro w hSw; (try dsimp only at hSw); (try go_simp); (try with_reducible rfl)
                  try simp only [Act.put, List.setIfInBounds_toArray, List.set_cons_zero, List.set_cons_succ]
                  refine until_s0 1 (v := ?_) rfl (by kernel_rfl) (fun _ _ _ h => h) (Or.inl ⟨by rfl, ?_⟩) (by assumption) (fun h => by first | assumption | exact absurd (h : true = false) (by decide)) ?_
                  rotate_left
                  · intro w hSw; (try dsimp only at hSw); (try go_simp); (try with_reducible rfl)
                  try simp only [Act.put, List.setIfInBounds_toArray, List.set_cons_zero, List.set_cons_succ]
                  refine until_s0 2 (v := ?_) rfl (by kernel_rfl) (fun _ _ _ h => h) (Or.inl ⟨by rfl, ?_⟩) (by assumption) (fun h => by first | assumption | exact absurd (h : true = false) (by decide)) ?_
                  rotate_left
                  · intro w hSw; (try dsimp only at hSw); (try go_simp); (try with_reducible rfl)
                  try simp only [Act.put, List.setIfInBounds_toArray, List.set_cons_zero, List.set_cons_succ]
                  refine until_s0 3 (v := ?_) rfl (by kernel_rfl) (fun _ _ _ h => h) (Or.inl ⟨by rfl, ?_⟩) (by assumption) (fun h => by first | assumption | exact absurd (h : true = false) (by decide)) ?_
                  rotate_left
                  · intro w hSw; (try dsimp only at hSw); (try go_simp); (try with_reducible rfl)
                  try simp only [Act.put, List.setIfInBounds_toArray, List.set_cons_zero, List.set_cons_succ]
                  refine until_s0 4 (v := ?_) rfl (by kernel_rfl) (fun _ _ _ h => h) (Or.inl ⟨by rfl, ?_⟩) (by assumption) (fun h => by first | assumption | exact absurd (h : true = false) (by decide)) ?_
                  rotate_left
                  · intro w hSw; (try dsimp only at hSw); (try go_simp); (try with_reducible rfl)
                  try simp only [Act.put, List.setIfInBounds_toArray, List.set_cons_zero, List.set_cons_succ]
                  refine until_s0 5 (v := ?_) rfl (by kernel_rfl) (fun _ _ _ h => h) (Or.inl ⟨by rfl, ?_⟩) (by assumption) (fun h => by first | assumption | exact absurd (h : true = false) (by decide)) ?_
                  rotate_left
                  · intro w hSw; (try dsimp only at hSw); (try go_simp); (try with_reducible rfl)
                  try simp only [Act.put, List.setIfInBounds_toArray, List.set_cons_zero, List.set_cons_succ]
                  refine until_s0 6 (v := ?_) rfl (by kernel_rfl) (fun _ _ _ h => h) (Or.inl ⟨by rfl, ?_⟩) (by assumption) (fun h => by first | assumption | exact absurd (h : true = false) (by decide)) ?_
                  rotate_left
                  · intro w hSw; (try dsimp only at hSw); (try go_simp); (try with_reducible rfl)
                  try simp only [Act.put, List.setIfInBounds_toArray, List.set_cons_zero, List.set_cons_succ]
                  refine until_s0 8 (v := ?_) rfl (by kernel_rfl) (fun _ _ _ h => h) (Or.inl ⟨by rfl, ?_⟩) (by assumption) (fun h => by first | assumption | exact absurd (h : true = false) (by decide)) ?_
                  rotate_left
                  · intro w hSw; (try dsimp only at hSw); (try go_simp); (try with_reducible rfl)
                  try simp only [Act.put, List.setIfInBounds_toArray, List.set_cons_zero, List.set_cons_succ]
                  refine until_s0 9 (v := ?_) rfl (by kernel_rfl) (fun _ _ _ h => h) (Or.inl ⟨by rfl, ?_⟩) (by assumption) (fun h => by first | assumption | exact absurd (h : true = false) (by decide)) ?_
                  rotate_left
                  · intro w hSw; (try dsimp only at hSw); (try go_simp); (try with_reducible rfl)
                  try simp only [Act.put, List.setIfInBounds_toArray, List.set_cons_zero, List.set_cons_succ]
                  refine until_s0 10 (v := ?_) rfl (by kernel_rfl) (fun _ _ _ h => h) (Or.inl ⟨by rfl, ?_⟩) (by assumption) (fun h => by first | assumption | exact absurd (h : true = false) (by decide)) ?_
                  rotate_left
                  · intro w hSw; (try dsimp only at hSw); (try go_simp); (try with_reducible rfl)
                  try simp only [Act.put, List.setIfInBounds_toArray, List.set_cons_zero, List.set_cons_succ]
                  refine until_s0 11 (v := ?_) rfl (by kernel_rfl) (fun _ _ _ h => h) (Or.inl ⟨by rfl, ?_⟩) (by assumption) (fun h => by first | assumption | exact absurd (h : true = false) (by decide)) ?_
                  rotate_left
                  · intro w hSw; (try dsimp only at hSw); (try go_simp); (try with_reducible rfl)
                  try simp only [Act.put, List.setIfInBounds_toArray, List.set_cons_zero, List.set_cons_succ]
                  refine until_s0 12 (v := ?_) rfl (by kernel_rfl) (fun _ _ _ h => h) (Or.inl ⟨by rfl, ?_⟩) (by assumption) (fun h => by first | assumption | exact absurd (h : true = false) (by decide)) ?_
                  rotate_left
                  · intro w hSw; (try dsimp only at hSw); (try go_simp); (try with_reducible rfl)
                  try simp only [Act.put, List.setIfInBounds_toArray, List.set_cons_zero, List.set_cons_succ]
                  refine until_s0 13 (v := ?_) rfl (by kernel_rfl) (fun _ _ _ h => h) (Or.inl ⟨by rfl, ?_⟩) (by assumption) (fun h => by first | assumption | exact absurd (h : true = false) (by decide)) ?_
                  rotate_left
                  · intro w hSw; (try dsimp only at hSw); (try go_simp); (try with_reducible rfl)
                  try simp only [Act.put, List.setIfInBounds_toArray, List.set_cons_zero, List.set_cons_succ]
                  refine until_s0 14 (v := ?_) rfl (by kernel_rfl) (fun _ _ _ h => h) (Or.inl ⟨by rfl, ?_⟩) (by assumption) (fun h => by first | assumption | exact absurd (h : true = false) (by decide)) ?_
                  rotate_left
                  · intro w hSw; (try dsimp only at hSw); (try go_simp); (try with_reducible rfl)
                  try simp only [Act.put, List.setIfInBounds_toArray, List.set_cons_zero, List.set_cons_succ]
                  refine until_s0 15 (v := ?_) rfl (by kernel_rfl) (fun _ _ _ h => h) (Or.inl ⟨by rfl, ?_⟩) (by assumption) (fun h => by first | assumption | exact absurd (h : true = false) (by decide)) ?_
                  rotate_left
                  · intro w hSw; (try dsimp only at hSw); (try go_simp); (try with_reducible rfl)
                  try simp only [Act.put, List.setIfInBounds_toArray, List.set_cons_zero, List.set_cons_succ]
                  refine until_sole 7 rfl (by kernel_rfl) (by rfl) ?_
                  intro K' hK
                  go_simp
                  go_at_call 33
                  refine (m3 _ hcw.2).mono ?_
                  rintro _ w5 ⟨rfl, rfl⟩
                  go_wp2_with fail
                  refine hK _ _ s0 (fun _ => trivial) ?_
                  clear hK m3
                  refine until_s0 16 (v := ?_) rfl (by kernel_rfl) (fun _ _ _ h => h) (Or.inl ⟨by rfl, ?_⟩) (by assumption) (fun h => by first | assumption | exact absurd (h : true = false) (by decide)) ?_
                  rotate_left
                  · intro w hSw; (try dsimp only at hSw); (try go_simp); (try with_reducible rfl)
                  try simp only [Act.put, List.setIfInBounds_toArray, List.set_cons_zero, List.set_cons_succ]
                  refine until_done (by kernel_rfl) ?_ _
                  go_wp2_with fail
                  refine ⟨⟨i + 1, by simp, by omega, by omega, hcw, hM, fun i' t' h1 h2 ht' => ?_, hF⟩, by simp only [intOf]; omega⟩
                  by_cases hii : i' = i
                  · subst hii
                    rw [HTT.out.1] at ht'; cases ht'
                    rw [← HTT.out.2.1, ← HTT.out.2.2.1, ← HZ.out]
                    exact HTT.out.2.2.2.2.symm
                  · exact HTT.out.2.2.2.1 i' t' h1 (by omega) ht'
                · have b1 : (bt z != (y.toNat : Int)) = true := by
                    rw [bne_iff_ne]; intro h; exact hzy (bt_inj2 h)
                  have hRR := HR.out.2 j hl i t hki HTT.out.1 (by rw [← HTT.out.2.1, ← HTT.out.2.2.1, ← HTT.out.2.2.2.2]; exact hzy)
                  have HRR := Lib.hid hRR
                  clear hzy hRR
                  refine until_s0 0 (v := ?_) rfl (by kernel_rfl) (fun _ _ _ h => h) (Or.inl ⟨by rfl, ?_⟩) (by assumption) (fun h => by first | assumption | exact absurd (h : true = false) (by decide)) ?_
                  rotate_left
                  · intro w hSw; (try dsimp only at hSw); (try go_simp); (try with_reducible rfl)
                  try simp only [Act.put, List.setIfInBounds_toArray, List.set_cons_zero, List.set_cons_succ]
                  refine until_s0 1 (v := ?_) rfl (by kernel_rfl) (fun _ _ _ h => h) (Or.inl ⟨by rfl, ?_⟩) (by assumption) (fun h => by first | assumption | exact absurd (h : true = false) (by decide)) ?_
                  rotate_left
                  · intro w hSw; (try dsimp only at hSw); (try go_simp); (try with_reducible rfl)
                  try simp only [Act.put, List.setIfInBounds_toArray, List.set_cons_zero, List.set_cons_succ]
                  refine until_s0 2 (v := ?_) rfl (by kernel_rfl) (fun _ _ _ h => h) (Or.inl ⟨by rfl, ?_⟩) (by assumption) (fun h => by first | assumption | exact absurd (h : true = false) (by decide)) ?_
                  rotate_left
                  · intro w hSw; (try dsimp only at hSw); (try go_simp); (try with_reducible rfl)
                  try simp only [Act.put, List.setIfInBounds_toArray, List.set_cons_zero, List.set_cons_succ]
                  refine until_s0 3 (v := ?_) rfl (by kernel_rfl) (fun _ _ _ h => h) (Or.inl ⟨by rfl, ?_⟩) (by assumption) (fun h => by first | assumption | exact absurd (h : true = false) (by decide)) ?_
                  rotate_left
                  · intro w hSw; (try dsimp only at hSw); (try go_simp); (try with_reducible rfl)
                  try simp only [Act.put, List.setIfInBounds_toArray, List.set_cons_zero, List.set_cons_succ]
                  refine until_s0 4 (v := ?_) rfl (by kernel_rfl) (fun _ _ _ h => h) (Or.inl ⟨by rfl, ?_⟩) (by assumption) (fun h => by first | assumption | exact absurd (h : true = false) (by decide)) ?_
                  rotate_left
                  · intro w hSw; (try dsimp only at hSw); (try go_simp); (try with_reducible rfl)
                  try simp only [Act.put, List.setIfInBounds_toArray, List.set_cons_zero, List.set_cons_succ]
                  refine until_s0 5 (v := ?_) rfl (by kernel_rfl) (fun _ _ _ h => h) (Or.inl ⟨by rfl, ?_⟩) (by assumption) (fun h => by first | assumption | exact absurd (h : true = false) (by decide)) ?_
                  rotate_left
                  · intro w hSw; (try dsimp only at hSw); (try go_simp); (try with_reducible rfl)
                  try simp only [Act.put, List.setIfInBounds_toArray, List.set_cons_zero, List.set_cons_succ]
                  refine until_s0 6 (v := ?_) rfl (by kernel_rfl) (fun _ _ _ h => h) (Or.inl ⟨by rfl, ?_⟩) (by assumption) (fun h => by first | assumption | exact absurd (h : true = false) (by decide)) ?_
                  rotate_left
                  · intro w hSw; (try dsimp only at hSw); (try go_simp); (try with_reducible rfl)
                  try simp only [Act.put, List.setIfInBounds_toArray, List.set_cons_zero, List.set_cons_succ]
                  refine until_s0 8 (v := ?_) rfl (by kernel_rfl) (fun _ _ _ h => h) (Or.inl ⟨by rfl, ?_⟩) (by assumption) (fun h => by first | assumption | exact absurd (h : true = false) (by decide)) ?_
                  rotate_left
                  · intro w hSw; (try dsimp only at hSw); (try go_simp); (try with_reducible rfl)
                  try simp only [Act.put, List.setIfInBounds_toArray, List.set_cons_zero, List.set_cons_succ]
                  refine until_s0 9 (v := ?_) rfl (by kernel_rfl) (fun _ _ _ h => h) (Or.inl ⟨by rfl, ?_⟩) (by assumption) (fun h => by first | assumption | exact absurd (h : true = false) (by decide)) ?_
                  rotate_left
                  · intro w hSw; (try dsimp only at hSw); (try go_simp); (try with_reducible rfl)
                  try simp only [Act.put, List.setIfInBounds_toArray, List.set_cons_zero, List.set_cons_succ]
                  refine until_s0 10 (v := ?_) rfl (by kernel_rfl) (fun _ _ _ h => h) (Or.inl ⟨by rfl, ?_⟩) (by assumption) (fun h => by first | assumption | exact absurd (h : true = false) (by decide)) ?_
                  rotate_left
                  · intro w hSw; (try dsimp only at hSw); (try go_simp); (try with_reducible rfl)
                  try simp only [Act.put, List.setIfInBounds_toArray, List.set_cons_zero, List.set_cons_succ]
                  refine until_s0 11 (v := ?_) rfl (by kernel_rfl) (fun _ _ _ h => h) (Or.inl ⟨by rfl, ?_⟩) (by assumption) (fun h => by first | assumption | exact absurd (h : true = false) (by decide)) ?_
                  rotate_left
                  · intro w hSw; (try dsimp only at hSw); (try go_simp); (try with_reducible rfl)
                  try simp only [Act.put, List.setIfInBounds_toArray, List.set_cons_zero, List.set_cons_succ]
                  refine until_s0 12 (v := ?_) rfl (by kernel_rfl) (fun _ _ _ h => h) (Or.inl ⟨by rfl, ?_⟩) (by assumption) (fun h => by first | assumption | exact absurd (h : true = false) (by decide)) ?_
                  rotate_left
                  · intro w hSw; (try dsimp only at hSw); (try go_simp); (try with_reducible rfl)
                  try simp only [Act.put, List.setIfInBounds_toArray, List.set_cons_zero, List.set_cons_succ]
                  refine until_s0 13 (v := ?_) rfl (by kernel_rfl) (fun _ _ _ h => h) (Or.inl ⟨by rfl, ?_⟩) (by assumption) (fun h => by first | assumption | exact absurd (h : true = false) (by decide)) ?_
                  rotate_left
                  · intro w hSw; (try dsimp only at hSw); (try go_simp); (try with_reducible rfl)
                  try simp only [Act.put, List.setIfInBounds_toArray, List.set_cons_zero, List.set_cons_succ]
                  refine until_s0 14 (v := ?_) rfl (by kernel_rfl) (fun _ _ _ h => h) (Or.inl ⟨by rfl, ?_⟩) (by assumption) (fun h => by first | assumption | exact absurd (h : true = false) (by decide)) ?_
                  rotate_left
                  · intro w hSw; (try dsimp only at hSw); (try go_simp); (try with_reducible rfl)
                  try simp only [Act.put, List.setIfInBounds_toArray, List.set_cons_zero, List.set_cons_succ]
                  refine until_s0 15 (v := ?_) rfl (by kernel_rfl) (fun _ _ _ h => h) (Or.inl ⟨by rfl, ?_⟩) (by assumption) (fun h => by first | assumption | exact absurd (h : true = false) (by decide)) ?_
                  rotate_left
                  · intro w hSw; (try dsimp only at hSw); (try go_simp); (try with_reducible rfl)
                  try simp only [Act.put, List.setIfInBounds_toArray, List.set_cons_zero, List.set_cons_succ]
                  refine until_sole 7 rfl (by kernel_rfl) (by rfl) ?_
                  intro K' hK
                  go_simp
                  go_at_call 33
                  refine (m3 _ hcw.2).mono ?_
                  rintro _ w5 ⟨rfl, rfl⟩
                  go_wp2_with fail
                  refine hK _ _ s0 (fun _ => trivial) ?_
                  clear hK m3
                  refine until_s0 16 (v := ?_) rfl (by kernel_rfl) (fun _ _ _ h => h) (Or.inl ⟨by rfl, ?_⟩) (by assumption) (fun h => by first | assumption | exact absurd (h : true = false) (by decide)) ?_
                  rotate_left
                  · intro w hSw; (try dsimp only at hSw); (try go_simp); (try with_reducible rfl)
                  try simp only [Act.put, List.setIfInBounds_toArray, List.set_cons_zero, List.set_cons_succ]
                  refine until_done (by kernel_rfl) ?_ _
                  go_wp2_with fail
                  go_ret2
                  exact ⟨by rw [HRR.out]; rfl, hF⟩
              · obtain rfl : i = ps.length := by omega
                obtain ⟨hold, hcl, hev⟩ := HA.out
                obtain ⟨z, hz⟩ : ∃ z, z = (atR F 0).getD j 0 := ⟨_, rfl⟩
                have hz0 : c.getD 0 0 = z := by rw [hz, ← hev, ev_zero]
                have hc0 := hcw.get 0 (by omega)
                rw [hz0] at hc0
                have l0 : (0 : Int) < k := by omega
                have hnext : byteCells ((atR F 0).take (j + 1)) = byteCells ((atR F 0).take j) ++ [.int .u8 (bt z)] := by
                  rw [take_snoc0 _ j (by omega), ← hz]; simp [byteCells, bt]
                have wz := u8_btb z
                have A4 := At.alloc_new wr 5 #[Value.int .u8 (bt z)]
                have hB := hF.below
                have hszr := hB.size
                have HN := Lib.hid (And.intro hnext (And.intro hall hold))
                clear hnext hall hold hcl hev hz hz0 hcw
                go_wp2_with (first
                  | (at_builtin; refine wpList_append_own _ rfl _ _ _ rfl w.heap.size 5 iB (.int .u8 0) 1 1 Tryd.underlying55 hiB zB0 zB1 zB2 rfl (by decide) _ j _ rfl (World.ownsRow.alloc hM _) ⟨wr.heap.size, 0, none⟩ 1 1 [.int .u8 (bt z)] rfl rfl (by intro j u hj; rw [addr_add', Nat.zero_add]; exact (A4.cell j).trans hj) (by intro u hu; simp at hu; subst hu; rfl) (by simp [maxLen]; omega) (by omega) (by simp; omega) ?_; intro v5 w5 o5 gr5 _)
                  | fail)
                refine ⟨⟨j + 1, by omega, by simp, by rw [HN.out.1]; exact o5, fun j' hj' i t hi ht => ?_, ?_⟩, by simp only [intOf]; omega⟩
                · by_cases hjj : j' = j
                  · subst hjj
                    exact HN.out.2.1 i t hi (List.getElem?_eq_some_iff.1 ht).1 ht
                  · exact HN.out.2.2 j' (by omega) i t hi ht
                · exact Fr.ofBelow ((hB.alloc (by omega) _).grown gr5 (by simp; omega) (fun k hk => (hM.lt k hk).1))
          · obtain rfl : j = 32 := by omega
            have hRR := HR.out.1 (fun j' hj' i t hi ht => hall j' hj' i t hi ht)
            have HRR := Lib.hid hRR
            rw [List.take_of_length_le (by omega)] at hM
            have hcv := run_strOwn Tryd.underlying55 Tryd.underlying5 Tryd.underlying9 hM
            clear hall hRR
            go_wp2_with fail
            go_ret2
            exact ⟨by rw [HRR.out]; rfl, hF⟩
    · have b1 : (togE ps != 0) = true := by simpa using hE
      rw [join_bad hE]
      generalize togE ps = E at cT b1
      clear hE h0
      go_enter Tryd.func23, Tryd.ntmps23
      go_wp2_with (first
        | (go_at_call 37; refine cT.mono ?_; clear cT; rintro e w1 ⟨rfl, f1⟩)
        | fail)
      go_ret2
      exact ⟨rfl, f1⟩
end Go.Proofs.YtffhfmaphjjffaaDoor
