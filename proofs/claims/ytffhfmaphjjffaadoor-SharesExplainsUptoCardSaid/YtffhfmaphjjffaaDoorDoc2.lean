/- Join of the document. The coins that explain shares, in plain Lean; points in memory that may be written. No walk here. Explain of the program. The coins that explain shares are the coefficients of the polynomials through them and the key, in plain Lean. No walk here. Explain of the document. The law's list, written over: each second text a byte longer. A list of texts that came in as an argument. -/
import Derived.Test.YtffhfmaphjjffaaDoorDoc1
import Derived.Test.YtffhfmaphjjffaaDoorJnMixP
import Derived.Test.YtffhfmaphjjffaaDoorUntil
import Derived.Test.YtffhfmaphjjffaaDoorJnJoin
import Derived.Test.YtffhfmaphjjffaaDoorJnList
import Derived.Test.YtffhfmaphjjffaaDoorShaSums
import Derived.Test.YtffhfmaphjjffaaDoorRows
import Derived.Deep.Strs
import Derived.SizedLaws
import Derived.ProofKit
import Derived.OpenShut
namespace Go.Proofs.YtffhfmaphjjffaaDoor
open Go.RowKit Go.Lib Go.Joins Base Gf
set_option linter.unusedVariables false
set_option linter.unusedSimpArgs false

theorem bt_inj2 {x y : UInt8} (h : bt x = bt y) : x = y := by unfold bt at h; exact UInt8.toNat_inj.1 (by omega)
theorem pairs_fst (ps : List ByteArray) (k j : Nat) : (pairsOf (ps.take k) j).map (·.1) = xsOf ((ps.map ptO).take k) := by
  simp [pairsOf, xsOf, ptO, ← List.map_take]
theorem valD_get (l : List UInt8) (j : Nat) (hj : j < 32) : (valD l).getD j 0 = l.getD (11 + j) 0 := by
  simp [valD, List.getD, List.getElem?_take, hj, List.getElem?_drop]
theorem pairs_snd (ps : List ByteArray) (k j : Nat) (hj : j < 32) : (pairsOf (ps.take k) j).map (·.2) = ysOf ((ps.map ptO).take k) j := by
  simp only [pairsOf, ysOf, ← List.map_take, List.map_map]
  apply List.map_congr_left
  intro s _
  exact (valD_get s.data.toList j hj).symm
theorem pairs_len (ps : List ByteArray) (k j : Nat) (h : k ≤ ps.length) : (pairsOf (ps.take k) j).length = k := by simp [pairsOf]; omega
/-- Points that the document built, as whole rows. -/
theorem q_cells {w : World} {b g c n : Nat} {e : TypeId} {l : List (UInt8 × UInt8)} (h : w.ownsRow b e 2 (.slice (some ⟨g, 0, none⟩) n c) n (qsC l)) (w' : World) (f : Fr [] w w') : ∀ i p, l[i]? = some p → w'.cell? ⟨g, i * 2, none⟩ = some (.int .i64 (bt p.1)) ∧ w'.cell? ⟨g, i * 2 + 1, none⟩ = some (.int .i64 (bt p.2)) := fun i p hp => by
  have h' := own_fr h f (by simp)
  obtain ⟨e1, e2⟩ := qsC_get l i p hp
  have a1 := World.ownsRow.cells h' rfl (i * 2) _ e1
  have a2 := World.ownsRow.cells h' rfl (i * 2 + 1) _ e2
  rw [addr_add', Nat.zero_add] at a1 a2
  exact ⟨a1, a2⟩
set_option maxRecDepth 100000 in
set_option maxHeartbeats 8000000 in
theorem rjoin_any (ps : List ByteArray) (ad : Option Addr) (cap : Nat) (hn : ps.length ≤ 4194304) (w : World) (hP : Powers w) (hQ : RefRoots w) (hT : Texts w ad ps) :
    Calls Tryd.prog 23 #[.slice ad ps.length cap] w fun e w' => e = .returned (.tuple #[.string ⟨(joinV ps).1.toArray⟩, .int .i64 (joinV ps).2]) ∧ Fr [] w w' := by
  have hi6 : (Tryd.prog.info? 5).map (fun i => (i.zero, i.size, i.bytes)) = some (some (.int .u8 0), 1, 1) := by kernel_rfl
  obtain ⟨iB, hiB, zB0, zB1, zB2⟩ := info_parts hi6
  have cT := rtog_any ps ad cap hn w hP hQ hT
  by_cases h0 : ps = []
  · have hl : ps.length = 0 := by rw [h0]; rfl
    have hE : togE ps = 0 := by rw [h0]; decide
    rw [join_none hE h0, hl]
    clear cT hE
    go_enter Tryd.func23, Tryd.ntmps23
    go_wp2_with fail
    go_ret2
    exact ⟨rfl, Fr.refl _ _⟩
  · have hl0 : 0 < ps.length := Nat.pos_of_ne_zero (fun h => h0 (List.length_eq_zero_iff.1 h))
    have b0 : ((ps.length : Int) == 0) = false := by simp; omega
    by_cases hE : togE ps = 0
    · obtain ⟨z1, z2, z3⟩ := togE_zero hE
      have h51 : ∀ s ∈ ps, s.size = 51 := fun s hs => by simpa using (isE_parts _ (z1 s hs)).1
      obtain ⟨s, hs⟩ : ∃ s, ps[0]? = some s := ⟨_, List.getElem?_eq_getElem hl0⟩
      have hss := h51 s (List.mem_of_getElem? hs)
      have hkr : 1 ≤ (kinO s).1 ∧ (kinO s).1 ≤ 16 := by
        have := isE_parts _ (z1 s (List.mem_of_getElem? hs))
        exact ⟨this.2.2.2.2.2.1, this.2.2.2.2.2.2⟩
      obtain ⟨k, hk⟩ : ∃ k, k = (kinO s).1 := ⟨_, rfl⟩
      rw [← hk] at hkr
      have i2 : 2 < s.size := by omega
      obtain ⟨kb, hkb⟩ : ∃ kb, kb = s.data.toList.getD 2 0 := ⟨_, rfl⟩
      have g2 : s[2] = kb := by rw [hkb]; exact sget rfl i2
      have hkn : (kb.toNat : Int) = k := by rw [hk, hkb]; rfl
      obtain ⟨g, o, rfl, hc⟩ := hT 0 s hs
      have hcs : ∀ w' : World, Fr [] w w' → w'.cell? ⟨g, o, none⟩ = some (.string s) := fun w' f => by
        obtain ⟨g', o', e', h⟩ := (hT.keep f) 0 s hs
        cases e'; exact h
      obtain ⟨R, hRd⟩ : ∃ R, R = joinV ps := ⟨_, rfl⟩
      obtain ⟨F, hF0⟩ : ∃ F, F = (ps.map ptO).take k := ⟨_, rfl⟩
      have hF32 : ∀ p ∈ F, p.2.length = 32 := fun p hp => by
        rw [hF0] at hp
        obtain ⟨t, ht, rfl⟩ := List.mem_map.1 (List.mem_of_mem_take hp)
        exact valD_len _ (z1 t ht)
      have hR1 : ps.length < k → R = ([], 262) := fun h => by rw [hRd]; exact join_few hE s hs (by rw [← hk]; exact h)
      have hR2 : ¬ ps.length < k → (∀ j, j < 32 → ∀ i t, k ≤ i → ps[i]? = some t → (atR F (t.data.toList.getD 1 0)).getD j 0 = t.data.toList.getD (11 + j) 0) → R = (atR F 0, 0) := fun h ha => by
        rw [hRd, hF0, hk]
        refine join_ok hE s hs (by rw [← hk]; exact h) (fun p hp => ?_)
        rw [← hk] at hp ⊢
        rw [← hF0]
        obtain ⟨a, hla, rfl⟩ := List.mem_iff_getElem.1 hp
        rw [List.length_drop, List.length_map] at hla
        rw [List.getElem_drop, List.getElem_map]
        have ht := List.getElem?_eq_getElem (show k + a < ps.length by omega)
        refine list_getD_ext _ _ (by rw [atR_len F _ hF32]; exact (valD_len _ (z1 _ (List.mem_of_getElem? ht))).symm) fun j hj => ?_
        rw [atR_len F _ hF32] at hj
        show (atR F ((ps[k + a]).data.toList.getD 1 0)).getD j 0 = (valD (ps[k + a]).data.toList).getD j 0
        rw [valD_get _ j hj]
        exact ha j hj (k + a) _ (by omega) ht
      have hR3 : ¬ ps.length < k → ∀ j, j < 32 → ∀ i t, k ≤ i → ps[i]? = some t → (atR F (t.data.toList.getD 1 0)).getD j 0 ≠ t.data.toList.getD (11 + j) 0 → R = ([], 260) := fun h j hj i t hi ht hne => by
        rw [hRd]
        refine join_split hE s hs (by rw [← hk]; exact h) (fun hall => hne ?_)
        rw [← hk, ← hF0] at hall
        have hil := (List.getElem?_eq_some_iff.1 ht).1
        have hm : ptO t ∈ (ps.map ptO).drop k := List.mem_of_getElem? (i := i - k) (by rw [List.getElem?_drop, show k + (i - k) = i by omega, List.getElem?_map, ht]; rfl)
        have := hall _ hm
        rw [← valD_get t.data.toList j hj]
        exact congrArg (fun l : List UInt8 => l.getD j 0) this
      rw [← hRd]
      have hthr : k ≤ ps.length → ∀ j, j < 32 → (pairsOf (ps.take k) j).map (·.1) = xsOf F ∧ (pairsOf (ps.take k) j).map (·.2) = ysOf F j ∧ (pairsOf (ps.take k) j).length = k := fun h j hj => by
        rw [hF0]; exact ⟨pairs_fst ps k j, pairs_snd ps k j hj, pairs_len ps k j h⟩
      have hFl : k ≤ ps.length → F.length = k := fun h => by rw [hF0]; simp; omega
      have hev : ∀ x j, j < 32 → ev (thr (xsOf F) (ysOf F j)) x = (atR F x).getD j 0 := fun x j hj => (atR_thr F hF32 x j hj).symm
      rw [hE] at cT
      have HR := Lib.hid (And.intro hR1 (And.intro hR2 hR3))
      have HT := Lib.hid (And.intro hthr (And.intro hFl (And.intro hev (And.intro h51 hF32))))
      have hX0 := atR_len F 0 hF32
      clear hE z1 z2 z3 hs hk hkb hRd hF0 hF32 hR1 hR2 hR3 hthr hFl hev h0
      by_cases hlt : ps.length < k
      · have l1 : (ps.length : Int) < k := by omega
        have l2 : (0 : Int) < ps.length := by omega
        have HRR := Lib.hid (HR.out.1 hlt)
        clear hlt
        go_enter Tryd.func23, Tryd.ntmps23
        go_upto_region 6 with (first
          | (go_at_call 37; refine cT.mono ?_; clear cT; rintro e w1 ⟨rfl, f1⟩; have hc1 := hcs _ f1)
          | fail)
        go_wp2_with fail
        go_ret2
        exact ⟨by rw [HRR.out]; rfl, f1⟩
      · have l1 : ¬ (ps.length : Int) < k := by omega
        have l2 : (0 : Int) < ps.length := by omega
        have hkl : k ≤ ps.length := by omega
        have hR2 := HR.out.2.1 hlt
        have hR3 := HR.out.2.2 hlt
        have HR := Lib.hid (And.intro hR2 hR3)
        clear hR2 hR3
        go_enter Tryd.func23, Tryd.ntmps23
        go_upto_region 6 with (first
          | (go_at_call 37; refine cT.mono ?_; clear cT; rintro e w1 ⟨rfl, f1⟩; have hc1 := hcs _ f1)
          | fail)
        go_wp2_with fail
        clear hc1 hcs hc g2 hkn i2 hss b0 l1 h51 hlt
        have hsz1 := f1.size
        go_loopw [6, 7, 8, 9] (fun v6 v7 _ _ wr => ∃ j : Nat, j ≤ 32 ∧ v7 = .int .i64 j ∧ wr.ownsRow w.heap.size 5 1 v6 j (byteCells ((atR F 0).take j)) ∧ (∀ j', j' < j → ∀ i t, k ≤ i → ps[i]? = some t → (atR F (t.data.toList.getD 1 0)).getD j' 0 = t.data.toList.getD (11 + j') 0) ∧ Fr [] w wr) (fun _ v _ _ _ => 32 - (intOf v).toNat)
        case atStart => exact ⟨0, by omega, rfl, World.ownsRow_nil _ _ _ _, fun j' h => by omega, f1⟩
        case round =>
          clear f1 hsz1
          obtain ⟨j, hj, rfl, hM, hall, hF⟩ := hrel
          by_cases hl : j < 32
          · have l3 : (j : Int) < 32 := by omega
            obtain ⟨y1, y2, y3⟩ := HT.out.1 hkl j hl
            have m1 := fun w' f => rpoints_any ps (some ⟨g, o, none⟩) cap k j hkl (by omega) hl HT.out.2.2.2.1 w' (hT.keep f)
            obtain ⟨P, hPd⟩ : ∃ P, P = pairsOf (ps.take k) j := ⟨_, rfl⟩
            rw [← hPd] at y1 y2 y3 m1
            obtain ⟨c, hcd⟩ : ∃ c, c = thr (xsOf F) (ysOf F j) := ⟨_, rfl⟩
            have hcl : c.length = k := by rw [hcd, thr_len, xsOf_len, HT.out.2.1 hkl]
            have hcev : ∀ x, ev c x = (atR F x).getD j 0 := fun x => by rw [hcd]; exact HT.out.2.2.1 x j hl
            have m2 := fun (gp cp : Nat) w' h => rthrough_any P gp cp (by omega) (by omega) w' h
            rw [y1, y2, y3, ← hcd] at m2
            have HA := Lib.hid (And.intro hall (And.intro hcl hcev))
            have hszr := hF.size
            clear hall hcl hcev hcd hPd y1 y2 y3
            go_upto_region 14 with (first
              | (go_at_call 39; refine (m1 _ hF).mono ?_; clear m1; rintro e w2 ⟨v2, rfl, o2, f2⟩; obtain ⟨gp, cp, rfl⟩ := ownsRow_form o2 (by omega); have hM := own_fr hM f2 (by simp); have hF := hF.trans f2)
              | (go_at_call 38; refine (m2 gp cp _ (fun w' f => q_cells o2 w' f)).mono ?_; clear m2; rintro e w3 ⟨gs, cs, R2, rfl, hgs, A3, f3⟩; have hM := own_fr hM f3 (by simp); have hF := hF.trans f3)
              | fail)
            have hcw := CW.ofAt A3
            clear o2 A3 f2 f3 hgs
            go_wp2_with fail
            have rel0 : ∃ i : Nat, Value.int .i64 k = .int .i64 i ∧ k ≤ i ∧ i ≤ ps.length ∧ CW w3 gs c ∧ w3.ownsRow w.heap.size 5 1 u6 j (byteCells ((atR F 0).take j)) ∧ (∀ i' t, k ≤ i' → i' < i → ps[i']? = some t → (atR F (t.data.toList.getD 1 0)).getD j 0 = t.data.toList.getD (11 + j) 0) ∧ Fr [] w w3 := ⟨k, rfl, Nat.le_refl _, hkl, hcw, hM, fun i' t h1 h2 => by omega, hF⟩
            clear hcw hM hF
            go_loopw [9] (fun v9 wr => ∃ i : Nat, v9 = .int .i64 i ∧ k ≤ i ∧ i ≤ ps.length ∧ CW wr gs c ∧ wr.ownsRow w.heap.size 5 1 u6 j (byteCells ((atR F 0).take j)) ∧ (∀ i' t, k ≤ i' → i' < i → ps[i']? = some t → (atR F (t.data.toList.getD 1 0)).getD j 0 = t.data.toList.getD (11 + j) 0) ∧ Fr [] w wr) (fun v _ => ps.length - (intOf v).toNat)
            case atStart => exact rel0
            case round =>
              clear rel0
              obtain ⟨i, rfl, hki, hil, hcw, hM, hall, hF⟩ := hrel
              by_cases hl2 : i < ps.length
              · have l4 : (i : Int) < ps.length := by omega
                obtain ⟨t, ht⟩ : ∃ t, ps[i]? = some t := ⟨_, List.getElem?_eq_getElem hl2⟩
                have hts := HT.out.2.2.2.1 t (List.mem_of_getElem? ht)
                have hct : ∀ w' : World, Fr [] w w' → w'.cell? ⟨g, o + i, none⟩ = some (.string t) := fun w' f => by
                  obtain ⟨g', o', e', h⟩ := (hT.keep f) i t ht
                  cases e'; exact h
                have i1 : 1 < t.size := by omega
                have i2 : 11 + j < t.size := by omega
                obtain ⟨x, hx⟩ : ∃ x, x = t.data.toList.getD 1 0 := ⟨_, rfl⟩
                obtain ⟨y, hy⟩ : ∃ y, y = t.data.toList.getD (11 + j) 0 := ⟨_, rfl⟩
                have g1 : t[1] = x := by rw [hx]; exact sget rfl i1
                have g2 : t[11 + j] = y := by rw [hy]; exact sget rfl i2
                obtain ⟨kk, hkk⟩ : ∃ kk, kk = 11 + j := ⟨_, rfl⟩
                have w11 : IntKind.i64.wrap (11 + (j : Int)) = (kk : Int) := by rw [IntWalk.i64_in _ (by omega)]; omega
                have i3 : kk < t.size := by omega
                have i4 : (kk : Int) < 51 := by omega
                have g3 : t[kk] = y := by subst hkk; exact g2
                have m3 := fun w' h => rvalue_any c x gs cs (by have := HA.out.2.1; omega) w' h
                rw [HA.out.2.1] at m3
                have hz := HA.out.2.2 x
                obtain ⟨z, hzd⟩ : ∃ z, z = ev c x := ⟨_, rfl⟩
                rw [← hzd] at m3 hz
                have HTT := Lib.hid (And.intro ht (And.intro hx (And.intro hy (And.intro hall hz))))
                clear ht hx hy g2 i2 hkk hall hzd hz
                go_wp2_with fail
                refine wp_region_until (fun w' => w'.cell? ⟨g, o + i, none⟩ = some (.string t)) (fun _ => True) 1000 (by rfl) ?_
                have hT0 : True := trivial
                have hM := own_fr hM (Fr.drew [] _) (by simp)
                have hcw := hcw.keep (Fr.drew [] _) (by simp)
                have hF := hF.trans (Fr.drew [] _)
                generalize wr.drew = W4 at hM hcw hF ⊢
                have s0 := hct _ hF
                by_cases hzy : z = y
                · have b1 : (bt z != (y.toNat : Int)) = false := by rw [hzy]; simp [bt]
                  have HZ := Lib.hid hzy
                  clear hzy
                  refine until_s0 0 (v := ?_) rfl (by kernel_rfl) (fun _ _ _ h => h) (Or.inl ⟨by rfl, ?_⟩) (by assumption) (fun h => by first | assumption | exact absurd (h : true = false) (by decide)) ?_
                  rotate_left
                  · intro w hSw; (try dsimp only at hSw); (try go_simp); (try with_reducible rfl)
                  try simp only [Act.put, List.setIfInBounds_toArray, List.set_cons_zero, List.set_cons_succ]
                  refine until_s0 1 (v := ?_) rfl (by kernel_rfl) (fun _ _ _ h => h) (Or.inl ⟨by rfl, ?_⟩) (by assumption) (fun h => by first | assumption | exact absurd (h : true = false) (by decide)) ?_
                  rotate_left
                  · intro w hSw; (try dsimp only at hSw); (try go_simp); (try with_reducible rfl)
                  try simp only [Act.put, List.setIfInBounds_toArray, List.set_cons_zero, List.set_cons_succ]
                  refine until_s0 2 (v := ?_) rfl (by kernel_rfl) (fun _ _ _ h => h) (Or.inl ⟨by rfl, ?_⟩) (by assumption) (fun h => by first | assumption | exact absurd (h : true = false) (by decide)) ?_
                  rotate_left
                  · intro w hSw; (try dsimp only at hSw); (try go_simp); (try with_reducible rfl)
                  try simp only [Act.put, List.setIfInBounds_toArray, List.set_cons_zero, List.set_cons_succ]
                  refine until_s0 3 (v := ?_) rfl (by kernel_rfl) (fun _ _ _ h => h) (Or.inl ⟨by rfl, ?_⟩) (by assumption) (fun h => by first | assumption | exact absurd (h : true = false) (by decide)) ?_
                  rotate_left
                  · intro w hSw; (try dsimp only at hSw); (try go_simp); (try with_reducible rfl)
                  try simp only [Act.put, List.setIfInBounds_toArray, List.set_cons_zero, List.set_cons_succ]
                  refine until_s0 4 (v := ?_) rfl (by kernel_rfl) (fun _ _ _ h => h) (Or.inl ⟨by rfl, ?_⟩) (by assumption) (fun h => by first | assumption | exact absurd (h : true = false) (by decide)) ?_
                  rotate_left
                  · intro w hSw; (try dsimp only at hSw); (try go_simp); (try with_reducible rfl)
                  try simp only [Act.put, List.setIfInBounds_toArray, List.set_cons_zero, List.set_cons_succ]
                  refine until_s0 5 (v := ?_) rfl (by kernel_rfl) (fun _ _ _ h => h) (Or.inl ⟨by rfl, ?_⟩) (by assumption) (fun h => by first | assumption | exact absurd (h : true = false) (by decide)) ?_
                  rotate_left
                  · intro w hSw; (try dsimp only at hSw); (try go_simp); (try with_reducible rfl)
                  try simp only [Act.put, List.setIfInBounds_toArray, List.set_cons_zero, List.set_cons_succ]
                  refine until_s0 6 (v := ?_) rfl (by kernel_rfl) (fun _ _ _ h => h) (Or.inl ⟨by rfl, ?_⟩) (by assumption) (fun h => by first | assumption | exact absurd (h : true = false) (by decide)) ?_
                  rotate_left
                  · intro w hSw; (try dsimp only at hSw); (try go_simp); (try with_reducible rfl)
                  try simp only [Act.put, List.setIfInBounds_toArray, List.set_cons_zero, List.set_cons_succ]
                  refine until_s0 8 (v := ?_) rfl (by kernel_rfl) (fun _ _ _ h => h) (Or.inl ⟨by rfl, ?_⟩) (by assumption) (fun h => by first | assumption | exact absurd (h : true = false) (by decide)) ?_
                  rotate_left
                  · intro w hSw; (try dsimp only at hSw); (try go_simp); (try with_reducible rfl)
                  try simp only [Act.put, List.setIfInBounds_toArray, List.set_cons_zero, List.set_cons_succ]
                  refine until_s0 9 (v := ?_) rfl (by kernel_rfl) (fun _ _ _ h => h) (Or.inl ⟨by rfl, ?_⟩) (by assumption) (fun h => by first | assumption | exact absurd (h : true = false) (by decide)) ?_
                  rotate_left
                  · intro w hSw; (try dsimp only at hSw); (try go_simp); (try with_reducible rfl)
                  try simp only [Act.put, List.setIfInBounds_toArray, List.set_cons_zero, List.set_cons_succ]
                  refine until_s0 10 (v := ?_) rfl (by kernel_rfl) (fun _ _ _ h => h) (Or.inl ⟨by rfl, ?_⟩) (by assumption) (fun h => by first | assumption | exact absurd (h : true = false) (by decide)) ?_
                  rotate_left
                  · intro w hSw; (try dsimp only at hSw); (try go_simp); (try with_reducible rfl)
                  try simp only [Act.put, List.setIfInBounds_toArray, List.set_cons_zero, List.set_cons_succ]
                  refine until_s0 11 (v := ?_) rfl (by kernel_rfl) (fun _ _ _ h => h) (Or.inl ⟨by rfl, ?_⟩) (by assumption) (fun h => by first | assumption | exact absurd (h : true = false) (by decide)) ?_
                  rotate_left
                  · intro w hSw; (try dsimp only at hSw); (try go_simp); (try with_reducible rfl)
                  try simp only [Act.put, List.setIfInBounds_toArray, List.set_cons_zero, List.set_cons_succ]
                  refine until_s0 12 (v := ?_) rfl (by kernel_rfl) (fun _ _ _ h => h) (Or.inl ⟨by rfl, ?_⟩) (by assumption) (fun h => by first | assumption | exact absurd (h : true = false) (by decide)) ?_
                  rotate_left
                  · intro w hSw; (try dsimp only at hSw); (try go_simp); (try with_reducible rfl)
                  try simp only [Act.put, List.setIfInBounds_toArray, List.set_cons_zero, List.set_cons_succ]
                  refine until_s0 13 (v := ?_) rfl (by kernel_rfl) (fun _ _ _ h => h) (Or.inl ⟨by rfl, ?_⟩) (by assumption) (fun h => by first | assumption | exact absurd (h : true = false) (by decide)) ?_
                  rotate_left
                  · intro w hSw; (try dsimp only at hSw); (try go_simp); (try with_reducible rfl)
                  try simp only [Act.put, List.setIfInBounds_toArray, List.set_cons_zero, List.set_cons_succ]
                  refine until_s0 14 (v := ?_) rfl (by kernel_rfl) (fun _ _ _ h => h) (Or.inl ⟨by rfl, ?_⟩) (by assumption) (fun h => by first | assumption | exact absurd (h : true = false) (by decide)) ?_
                  rotate_left
                  · intro w hSw; (try dsimp only at hSw); (try go_simp); (try with_reducible rfl)
                  try simp only [Act.put, List.setIfInBounds_toArray, List.set_cons_zero, List.set_cons_succ]
                  refine until_s0 15 (v := ?_) rfl (by kernel_rfl) (fun _ _ _ h => h) (Or.inl ⟨by rfl, ?_⟩) (by assumption) (fun h => by first | assumption | exact absurd (h : true = false) (by decide)) ?_
                  rotate_left
                  · intro w hSw; (try dsimp only at hSw); (try go_simp); (try with_reducible rfl)
                  try simp only [Act.put, List.setIfInBounds_toArray, List.set_cons_zero, List.set_cons_succ]
                  refine until_sole 7 rfl (by kernel_rfl) (by rfl) ?_
                  intro K' hK
                  go_simp
                  go_at_call 33
                  refine (m3 _ hcw.2).mono ?_
                  rintro _ w5 ⟨rfl, rfl⟩
                  go_wp2_with fail
                  refine hK _ _ s0 (fun _ => trivial) ?_
                  clear hK m3
                  refine until_s0 16 (v := ?_) rfl (by kernel_rfl) (fun _ _ _ h => h) (Or.inl ⟨by rfl, ?_⟩) (by assumption) (fun h => by first | assumption | exact absurd (h : true = false) (by decide)) ?_
                  rotate_left
                  · intro w hSw; (try dsimp only at hSw); (try go_simp); (try with_reducible rfl)
                  try simp only [Act.put, List.setIfInBounds_toArray, List.set_cons_zero, List.set_cons_succ]
                  refine until_done (by kernel_rfl) ?_ _
                  go_wp2_with fail
                  refine ⟨⟨i + 1, by simp, by omega, by omega, hcw, hM, fun i' t' h1 h2 ht' => ?_, hF⟩, by simp only [intOf]; omega⟩
                  by_cases hii : i' = i
                  · subst hii
                    rw [HTT.out.1] at ht'; cases ht'
                    rw [← HTT.out.2.1, ← HTT.out.2.2.1, ← HZ.out]
                    exact HTT.out.2.2.2.2.symm
                  · exact HTT.out.2.2.2.1 i' t' h1 (by omega) ht'
                · have b1 : (bt z != (y.toNat : Int)) = true := by
                    rw [bne_iff_ne]; intro h; exact hzy (bt_inj2 h)
                  have hRR := HR.out.2 j hl i t hki HTT.out.1 (by rw [← HTT.out.2.1, ← HTT.out.2.2.1, ← HTT.out.2.2.2.2]; exact hzy)
                  have HRR := Lib.hid hRR
                  clear hzy hRR
                  refine until_s0 0 (v := ?_) rfl (by kernel_rfl) (fun _ _ _ h => h) (Or.inl ⟨by rfl, ?_⟩) (by assumption) (fun h => by first | assumption | exact absurd (h : true = false) (by decide)) ?_
                  rotate_left
                  · intro w hSw; (try dsimp only at hSw); (try go_simp); (try with_reducible rfl)
                  try simp only [Act.put, List.setIfInBounds_toArray, List.set_cons_zero, List.set_cons_succ]
                  refine until_s0 1 (v := ?_) rfl (by kernel_rfl) (fun _ _ _ h => h) (Or.inl ⟨by rfl, ?_⟩) (by assumption) (fun h => by first | assumption | exact absurd (h : true = false) (by decide)) ?_
                  rotate_left
                  · intro w hSw; (try dsimp only at hSw); (try go_simp); (try with_reducible rfl)
                  try simp only [Act.put, List.setIfInBounds_toArray, List.set_cons_zero, List.set_cons_succ]
                  refine until_s0 2 (v := ?_) rfl (by kernel_rfl) (fun _ _ _ h => h) (Or.inl ⟨by rfl, ?_⟩) (by assumption) (fun h => by first | assumption | exact absurd (h : true = false) (by decide)) ?_
                  rotate_left
                  · intro w hSw; (try dsimp only at hSw); (try go_simp); (try with_reducible rfl)
                  try simp only [Act.put, List.setIfInBounds_toArray, List.set_cons_zero, List.set_cons_succ]
                  refine until_s0 3 (v := ?_) rfl (by kernel_rfl) (fun _ _ _ h => h) (Or.inl ⟨by rfl, ?_⟩) (by assumption) (fun h => by first | assumption | exact absurd (h : true = false) (by decide)) ?_
                  rotate_left
                  · intro w hSw; (try dsimp only at hSw); (try go_simp); (try with_reducible rfl)
                  try simp only [Act.put, List.setIfInBounds_toArray, List.set_cons_zero, List.set_cons_succ]
                  refine until_s0 4 (v := ?_) rfl (by kernel_rfl) (fun _ _ _ h => h) (Or.inl ⟨by rfl, ?_⟩) (by assumption) (fun h => by first | assumption | exact absurd (h : true = false) (by decide)) ?_
                  rotate_left
                  · intro w hSw; (try dsimp only at hSw); (try go_simp); (try with_reducible rfl)
                  try simp only [Act.put, List.setIfInBounds_toArray, List.set_cons_zero, List.set_cons_succ]
                  refine until_s0 5 (v := ?_) rfl (by kernel_rfl) (fun _ _ _ h => h) (Or.inl ⟨by rfl, ?_⟩) (by assumption) (fun h => by first | assumption | exact absurd (h : true = false) (by decide)) ?_
                  rotate_left
                  · intro w hSw; (try dsimp only at hSw); (try go_simp); (try with_reducible rfl)
                  try simp only [Act.put, List.setIfInBounds_toArray, List.set_cons_zero, List.set_cons_succ]
                  refine until_s0 6 (v := ?_) rfl (by kernel_rfl) (fun _ _ _ h => h) (Or.inl ⟨by rfl, ?_⟩) (by assumption) (fun h => by first | assumption | exact absurd (h : true = false) (by decide)) ?_
                  rotate_left
                  · intro w hSw; (try dsimp only at hSw); (try go_simp); (try with_reducible rfl)
                  try simp only [Act.put, List.setIfInBounds_toArray, List.set_cons_zero, List.set_cons_succ]
                  refine until_s0 8 (v := ?_) rfl (by kernel_rfl) (fun _ _ _ h => h) (Or.inl ⟨by rfl, ?_⟩) (by assumption) (fun h => by first | assumption | exact absurd (h : true = false) (by decide)) ?_
                  rotate_left
                  · intro w hSw; (try dsimp only at hSw); (try go_simp); (try with_reducible rfl)
                  try simp only [Act.put, List.setIfInBounds_toArray, List.set_cons_zero, List.set_cons_succ]
                  refine until_s0 9 (v := ?_) rfl (by kernel_rfl) (fun _ _ _ h => h) (Or.inl ⟨by rfl, ?_⟩) (by assumption) (fun h => by first | assumption | exact absurd (h : true = false) (by decide)) ?_
                  rotate_left
                  · intro w hSw; (try dsimp only at hSw); (try go_simp); (try with_reducible rfl)
                  try simp only [Act.put, List.setIfInBounds_toArray, List.set_cons_zero, List.set_cons_succ]
                  refine until_s0 10 (v := ?_) rfl (by kernel_rfl) (fun _ _ _ h => h) (Or.inl ⟨by rfl, ?_⟩) (by assumption) (fun h => by first | assumption | exact absurd (h : true = false) (by decide)) ?_
                  rotate_left
                  · intro w hSw; (try dsimp only at hSw); (try go_simp); (try with_reducible rfl)
                  try simp only [Act.put, List.setIfInBounds_toArray, List.set_cons_zero, List.set_cons_succ]
                  refine until_s0 11 (v := ?_) rfl (by kernel_rfl) (fun _ _ _ h => h) (Or.inl ⟨by rfl, ?_⟩) (by assumption) (fun h => by first | assumption | exact absurd (h : true = false) (by decide)) ?_
                  rotate_left
                  · intro w hSw; (try dsimp only at hSw); (try go_simp); (try with_reducible rfl)
                  try simp only [Act.put, List.setIfInBounds_toArray, List.set_cons_zero, List.set_cons_succ]
                  refine until_s0 12 (v := ?_) rfl (by kernel_rfl) (fun _ _ _ h => h) (Or.inl ⟨by rfl, ?_⟩) (by assumption) (fun h => by first | assumption | exact absurd (h : true = false) (by decide)) ?_
                  rotate_left
                  · intro w hSw; (try dsimp only at hSw); (try go_simp); (try with_reducible rfl)
                  try simp only [Act.put, List.setIfInBounds_toArray, List.set_cons_zero, List.set_cons_succ]
                  refine until_s0 13 (v := ?_) rfl (by kernel_rfl) (fun _ _ _ h => h) (Or.inl ⟨by rfl, ?_⟩) (by assumption) (fun h => by first | assumption | exact absurd (h : true = false) (by decide)) ?_
                  rotate_left
                  · intro w hSw; (try dsimp only at hSw); (try go_simp); (try with_reducible rfl)
                  try simp only [Act.put, List.setIfInBounds_toArray, List.set_cons_zero, List.set_cons_succ]
                  refine until_s0 14 (v := ?_) rfl (by kernel_rfl) (fun _ _ _ h => h) (Or.inl ⟨by rfl, ?_⟩) (by assumption) (fun h => by first | assumption | exact absurd (h : true = false) (by decide)) ?_
                  rotate_left
                  · intro w hSw; (try dsimp only at hSw); (try go_simp); (try with_reducible rfl)
                  try simp only [Act.put, List.setIfInBounds_toArray, List.set_cons_zero, List.set_cons_succ]
                  refine until_s0 15 (v := ?_) rfl (by kernel_rfl) (fun _ _ _ h => h) (Or.inl ⟨by rfl, ?_⟩) (by assumption) (fun h => by first | assumption | exact absurd (h : true = false) (by decide)) ?_
                  rotate_left
                  · intro w hSw; (try dsimp only at hSw); (try go_simp); (try with_reducible rfl)
                  try simp only [Act.put, List.setIfInBounds_toArray, List.set_cons_zero, List.set_cons_succ]
                  refine until_sole 7 rfl (by kernel_rfl) (by rfl) ?_
                  intro K' hK
                  go_simp
                  go_at_call 33
                  refine (m3 _ hcw.2).mono ?_
                  rintro _ w5 ⟨rfl, rfl⟩
                  go_wp2_with fail
                  refine hK _ _ s0 (fun _ => trivial) ?_
                  clear hK m3
                  refine until_s0 16 (v := ?_) rfl (by kernel_rfl) (fun _ _ _ h => h) (Or.inl ⟨by rfl, ?_⟩) (by assumption) (fun h => by first | assumption | exact absurd (h : true = false) (by decide)) ?_
                  rotate_left
                  · intro w hSw; (try dsimp only at hSw); (try go_simp); (try with_reducible rfl)
                  try simp only [Act.put, List.setIfInBounds_toArray, List.set_cons_zero, List.set_cons_succ]
                  refine until_done (by kernel_rfl) ?_ _
                  go_wp2_with fail
                  go_ret2
                  exact ⟨by rw [HRR.out]; rfl, hF⟩
              · obtain rfl : i = ps.length := by omega
                obtain ⟨hold, hcl, hev⟩ := HA.out
                obtain ⟨z, hz⟩ : ∃ z, z = (atR F 0).getD j 0 := ⟨_, rfl⟩
                have hz0 : c.getD 0 0 = z := by rw [hz, ← hev, ev_zero]
                have hc0 := hcw.get 0 (by omega)
                rw [hz0] at hc0
                have l0 : (0 : Int) < k := by omega
                have hnext : byteCells ((atR F 0).take (j + 1)) = byteCells ((atR F 0).take j) ++ [.int .u8 (bt z)] := by
                  rw [take_snoc0 _ j (by omega), ← hz]; simp [byteCells, bt]
                have wz := u8_btb z
                have A4 := At.alloc_new wr 5 #[Value.int .u8 (bt z)]
                have hB := hF.below
                have hszr := hB.size
                have HN := Lib.hid (And.intro hnext (And.intro hall hold))
                clear hnext hall hold hcl hev hz hz0 hcw
                go_wp2_with (first
                  | (at_builtin; refine wpList_append_own _ rfl _ _ _ rfl w.heap.size 5 iB (.int .u8 0) 1 1 Tryd.underlying55 hiB zB0 zB1 zB2 rfl (by decide) _ j _ rfl (World.ownsRow.alloc hM _) ⟨wr.heap.size, 0, none⟩ 1 1 [.int .u8 (bt z)] rfl rfl (by intro j u hj; rw [addr_add', Nat.zero_add]; exact (A4.cell j).trans hj) (by intro u hu; simp at hu; subst hu; rfl) (by simp [maxLen]; omega) (by omega) (by simp; omega) ?_; intro v5 w5 o5 gr5 _)
                  | fail)
                refine ⟨⟨j + 1, by omega, by simp, by rw [HN.out.1]; exact o5, fun j' hj' i t hi ht => ?_, ?_⟩, by simp only [intOf]; omega⟩
                · by_cases hjj : j' = j
                  · subst hjj
                    exact HN.out.2.1 i t hi (List.getElem?_eq_some_iff.1 ht).1 ht
                  · exact HN.out.2.2 j' (by omega) i t hi ht
                · exact Fr.ofBelow ((hB.alloc (by omega) _).grown gr5 (by simp; omega) (fun k hk => (hM.lt k hk).1))
          · obtain rfl : j = 32 := by omega
            have hRR := HR.out.1 (fun j' hj' i t hi ht => hall j' hj' i t hi ht)
            have HRR := Lib.hid hRR
            rw [List.take_of_length_le (by omega)] at hM
            have hcv := run_strOwn Tryd.underlying55 Tryd.underlying5 Tryd.underlying9 hM
            clear hall hRR
            go_wp2_with fail
            go_ret2
            exact ⟨by rw [HRR.out]; rfl, hF⟩
    · have b1 : (togE ps != 0) = true := by simpa using hE
      rw [join_bad hE]
      generalize togE ps = E at cT b1
      clear hE h0
      go_enter Tryd.func23, Tryd.ntmps23
      go_wp2_with (first
        | (go_at_call 37; refine cT.mono ?_; clear cT; rintro e w1 ⟨rfl, f1⟩)
        | fail)
      go_ret2
      exact ⟨rfl, f1⟩
end Go.Proofs.YtffhfmaphjjffaaDoor
namespace Go.Proofs.YtffhfmaphjjffaaDoor
open Go.RowKit Go.Lib Go.Joins Base Gf
set_option linter.unusedVariables false
set_option linter.unusedSimpArgs false

def timesR (r : List UInt8) (f : UInt8) : List UInt8 := plusR (zerosB 32) r f
theorem timesR_len (r : List UInt8) (f : UInt8) (h : r.length = 32) : (timesR r f).length = 32 := by rw [timesR, plusR_len _ _ _ (by simp [zerosB, h])]; simp [zerosB]
/-- One point, less the value at 0, divided by its place. -/
def stepPt (low : List UInt8) (p : Pt) : Pt := (p.1, timesR (plusR p.2 low 1) (ginv p.1))
def stepPts (low : List UInt8) (l : List Pt) : List Pt := l.map (stepPt low)
theorem stepPts_len (low : List UInt8) (l : List Pt) : (stepPts low l).length = l.length := by simp [stepPts]
theorem stepPt_len (low : List UInt8) (p : Pt) (h1 : low.length = 32) (h2 : p.2.length = 32) : (stepPt low p).2.length = 32 := timesR_len _ _ (by rw [plusR_len _ _ _ (by omega), h2])
theorem stepPts_all (low : List UInt8) (l : List Pt) (h1 : low.length = 32) (h2 : ∀ p ∈ l, p.2.length = 32) : ∀ p ∈ stepPts low l, p.2.length = 32 := fun p hp => by
  obtain ⟨q, hq, rfl⟩ := List.mem_map.1 hp
  exact stepPt_len low q h1 (h2 q hq)
/-- The coins: row by row. -/
def explN : Nat → List UInt8 → List Pt → List UInt8
  | 0, _, _ => []
  | n + 1, low, l => atR (stepPts low l) 0 ++ explN n (atR (stepPts low l) 0) ((stepPts low l).tail)
theorem explN_len : ∀ (n : Nat) (low : List UInt8) (l : List Pt), l.length = n → low.length = 32 → (∀ p ∈ l, p.2.length = 32) → (explN n low l).length = 32 * n
  | 0, _, _, _, _, _ => rfl
  | n + 1, low, l, h, h1, h2 => by
    have hs := stepPts_all low l h1 h2
    rw [explN, List.length_append, atR_len _ _ hs, explN_len n _ _ (by rw [List.length_tail, stepPts_len, h]; rfl) (atR_len _ _ hs) (fun p hp => hs p (List.mem_of_mem_tail hp))]
    omega
/-- What Explain answers. -/
def explV (master : List UInt8) (ps : List ByteArray) : List UInt8 × Int :=
  if master.length ≠ 32 then ([], 40) else
  if togE ps ≠ 0 then ([], togE ps) else
  match ps[0]? with
  | none => ([], 0)
  | some s => if ps.length + 1 ≠ (kinO s).1 then ([], 262) else (explN ps.length master (ps.map ptO), 0)
theorem expl_key {m : List UInt8} {ps : List ByteArray} (h : m.length ≠ 32) : explV m ps = ([], 40) := by unfold explV; rw [if_pos h]
theorem expl_bad {m : List UInt8} {ps : List ByteArray} (hm : m.length = 32) (h : togE ps ≠ 0) : explV m ps = ([], togE ps) := by
  unfold explV; rw [if_neg (by simpa using hm), if_pos h]
theorem expl_none {m : List UInt8} {ps : List ByteArray} (hm : m.length = 32) (h : togE ps = 0) (h0 : ps = []) : explV m ps = ([], 0) := by
  subst h0; unfold explV; rw [if_neg (by simpa using hm), if_neg (by simpa using h)]; rfl
theorem expl_few {m : List UInt8} {ps : List ByteArray} (hm : m.length = 32) (h : togE ps = 0) (s : ByteArray) (hs : ps[0]? = some s) (hk : ps.length + 1 ≠ (kinO s).1) : explV m ps = ([], 262) := by
  unfold explV; rw [if_neg (by simpa using hm), if_neg (by simpa using h), hs]; show (if ps.length + 1 ≠ (kinO s).1 then _ else _) = _; rw [if_pos hk]
theorem expl_ok {m : List UInt8} {ps : List ByteArray} (hm : m.length = 32) (h : togE ps = 0) (s : ByteArray) (hs : ps[0]? = some s) (hk : ps.length + 1 = (kinO s).1) : explV m ps = (explN ps.length m (ps.map ptO), 0) := by
  unfold explV; rw [if_neg (by simpa using hm), if_neg (by simpa using h), hs]; show (if ps.length + 1 ≠ (kinO s).1 then _ else _) = _; rw [if_neg (by simpa using hk)]

/-! ## Points that may be written -/
theorem Fr.setCells1 (g : Nat) : ∀ (vs : List Value) (o : Nat) (w : World), Fr [g] w (w.setCells g o vs)
  | [], _, w => Fr.refl _ _
  | v :: r, o, w => (Fr.setCell [g] w ⟨g, o, none⟩ v (.inl (by simp))).trans (Fr.setCells1 g r (o + 1) _)
def WPts (w : World) (g o : Nat) (l : List Pt) : Prop := Pts w g o l ∧ w.there g o (l.length * 33)
theorem WPts.keep {S : List Nat} {w w' : World} {g o : Nat} {l : List Pt} (h : WPts w g o l) (f : Fr S w w') (hS : g ∉ S) : WPts w' g o l := by
  refine ⟨h.1.keep f hS, fun j hj => ?_⟩
  have hb := f.block g h.1.1 hS
  obtain ⟨h1, h2⟩ := h.2 j hj
  refine ⟨by rw [World.cell?_of_block hb]; exact h1, ?_⟩
  rw [← h2]
  simp only [World.frozen?, hb]
theorem WPts.tail {w : World} {g o : Nat} {p : Pt} {l : List Pt} (h : WPts w g o (p :: l)) : WPts w g (o + 33) l := by
  refine ⟨⟨h.1.1, fun i q hq => ?_⟩, fun j hj => ?_⟩
  · have := h.1.2 (i + 1) q (by simpa using hq)
    rwa [show o + (i + 1) * 33 = o + 33 + i * 33 by omega] at this
  · have := h.2 (33 + j) (by simp; omega)
    rwa [show o + (33 + j) = o + 33 + j by omega] at this
theorem WPts.there1 {w : World} {g o : Nat} {l : List Pt} (h : WPts w g o l) (i : Nat) (hi : i < l.length) : w.there g (o + i * 33 + 1) 32 := fun j hj => by
  have := h.2 (i * 33 + 1 + j) (by have : (i + 1) * 33 ≤ l.length * 33 := Nat.mul_le_mul_right _ hi; omega)
  rwa [show o + (i * 33 + 1 + j) = o + i * 33 + 1 + j by omega] at this
theorem WPts.set {w : World} {g o : Nat} {l : List Pt} (h : WPts w g o l) (hl : ∀ p ∈ l, p.2.length = 32) (i : Nat) (p : Pt) (hp : l[i]? = some p) (y : List UInt8) (hy : y.length = 32) : WPts (w.setCells g (o + i * 33 + 1) (byteCells y)) g o (l.set i (p.1, y)) := by
  have hi : i < l.length := (List.getElem?_eq_some_iff.1 hp).1
  refine ⟨⟨?_, fun j q hq => ?_⟩, ?_⟩
  · have := (Fr.setCells1 g (byteCells y) (o + i * 33 + 1) w).size
    have := h.1.1; omega
  · by_cases hj : i = j
    · subst hj
      rw [List.getElem?_set_self hi] at hq
      cases hq
      intro k v hv
      cases k with
      | zero =>
        have h0 : w.rangeAt g (o + i * 33) [.int .u8 (bt p.1)] := fun k u hu => h.1.2 i p hp k u (by
          cases k with
          | zero => exact hu
          | succ k => simp at hu)
        exact World.rangeAt_setCells_apart h0 g (o + i * 33 + 1) (byteCells y) (.inr (.inl (by simp))) 0 v (by simpa [ptCells] using hv)
      | succ k =>
        have hs := World.rangeAt_setCells_same w g (o + i * 33 + 1) (byteCells y) (by rw [byteCells_length, hy]; exact h.there1 i hi) k v (by simpa [ptCells] using hv)
        rwa [show o + i * 33 + 1 + k = o + i * 33 + (k + 1) by omega] at hs
    · rw [List.getElem?_set_ne hj] at hq
      have hq32 := hl q (List.mem_of_getElem? hq)
      refine World.rangeAt_setCells_apart (h.1.2 j q hq) g _ _ ?_
      rw [ptCells_len q hq32, byteCells_length, hy]
      rcases Nat.lt_or_ge j i with h' | h'
      · refine .inr (.inl ?_)
        have : (j + 1) * 33 ≤ i * 33 := Nat.mul_le_mul_right _ h'
        omega
      · refine .inr (.inr ?_)
        have : (i + 1) * 33 ≤ j * 33 := Nat.mul_le_mul_right _ (by omega)
        omega
  · rw [List.length_set]
    exact World.there_setCells h.2 _ _ _
theorem wpts_own {w : World} {b g c n : Nat} {e : TypeId} {ps : List ByteArray} (h : w.ownsRow b e 33 (.slice (some ⟨g, 0, none⟩) n c) n (ptsC ps)) (hps : ∀ s ∈ ps, (ptO s).2.length = 32) : WPts w g 0 (ps.map ptO) := by
  refine ⟨pts_own h hps, ?_⟩
  have hl := h.1
  have hlen : ∀ l : List ByteArray, (∀ s ∈ l, (ptO s).2.length = 32) → (ptsC l).length = l.length * 33 := by
    intro l
    induction l with
    | nil => intro _; rfl
    | cons s r ih =>
      intro hh
      have e : ptsC (s :: r) = ptCells (ptO s) ++ ptsC r := by simp [ptsC]
      rw [e, List.length_append, ptCells_len _ (hh s (by simp)), ih (fun t ht => hh t (by simp [ht]))]
      simp; omega
  have hpl := hlen ps hps
  rw [List.length_map]
  intro j hj
  have hcell := World.ownsRow.cells h rfl j _ (List.getElem?_eq_getElem (by omega))
  rw [addr_add', Nat.zero_add] at hcell
  refine ⟨by rw [Nat.zero_add, hcell]; rfl, ?_⟩
  obtain ⟨_, ⟨h', _⟩ | ⟨g', cap', cur, hv, _, hg, _⟩⟩ := h
  · simp at h'
  · simp only [Value.slice.injEq, Option.some.injEq, Addr.mk.injEq, and_true] at hv
    obtain ⟨rfl, _⟩ := hv
    simp [World.frozen?, hg]
theorem step_prefix (low : List UInt8) (L : List Pt) (i : Nat) (p : Pt) (hp : L[i]? = some p) : ((stepPts low L).take i ++ L.drop i).set i (p.1, (stepPt low p).2) = (stepPts low L).take (i + 1) ++ L.drop (i + 1) := by
  have hi : i < L.length := (List.getElem?_eq_some_iff.1 hp).1
  have ht : ((stepPts low L).take i).length = i := by simp [stepPts_len]; omega
  have hs : (stepPts low L)[i]? = some (stepPt low p) := by rw [stepPts, List.getElem?_map, hp]; rfl
  rw [List.set_append_right _ _ (by omega), ht, Nat.sub_self, List.drop_eq_getElem_cons hi, List.set_cons_zero, List.take_add_one, hs]
  simp [stepPt]
theorem step_cur (low : List UInt8) (L : List Pt) (i : Nat) (hi : i < L.length) : ((stepPts low L).take i ++ L.drop i)[i]? = L[i]? := by
  have ht : ((stepPts low L).take i).length = i := by simp [stepPts_len]; omega
  rw [List.getElem?_append_right (by omega), ht, Nat.sub_self, List.getElem?_drop]; rfl
theorem step_all (low : List UInt8) (L : List Pt) (i : Nat) (h1 : low.length = 32) (h2 : ∀ p ∈ L, p.2.length = 32) : ∀ p ∈ (stepPts low L).take i ++ L.drop i, p.2.length = 32 := fun p hp => by
  rcases List.mem_append.1 hp with h | h
  · exact stepPts_all low L h1 h2 p (List.mem_of_mem_take h)
  · exact h2 p (List.mem_of_mem_drop h)
def slN : Value → Nat
  | .slice _ n _ => n
  | _ => 0
end Go.Proofs.YtffhfmaphjjffaaDoor
namespace Go.Proofs.YtffhfmaphjjffaaDoor
open Go.RowKit Go.Lib Go.Joins Base Gf
set_option linter.unusedVariables false
set_option linter.unusedSimpArgs false

set_option maxRecDepth 100000 in
set_option maxHeartbeats 2000000 in
theorem times_any (R : List UInt8) (f : UInt8) (hR : R.length = 32) (w : World) :
    Calls Tryd.prog 40 #[.agg (byteCells R).toArray, .int .u8 (bt f)] w fun e w' => e = .returned (.agg (byteCells (timesR R f)).toArray) ∧ Fr [] w w' := by
  have cP := fun w => plus_any (zerosB 32) R f (by simp [zerosB]) hR w
  have hXl := timesR_len R f hR
  obtain ⟨X, hX⟩ : ∃ X, X = timesR R f := ⟨_, rfl⟩
  rw [show plusR (zerosB 32) R f = X from hX.symm] at cP
  rw [← hX] at hXl ⊢
  have hbR : (Tryd.prog.info? 63).map (·.size) = some (byteCells R).toArray.size := by rw [List.size_toArray, byteCells_length, hR]; kernel_rfl
  have hbX : (Tryd.prog.info? 63).map (·.size) = some (byteCells X).toArray.size := by rw [List.size_toArray, byteCells_length, hXl]; kernel_rfl
  have hol : (byteCells (zerosB 32)).toArray.size = (byteCells X).toArray.size := by simp [byteCells_length, hXl, zerosB]
  have hal : (byteCells X).toArray.all (·.oneCell') = true := all_oneCell_toArray (byteCells_one X)
  have A0 := (At.alloc_new w 63 (byteCells R).toArray).alloc (.cells (byteCells (zerosB 32)).toArray 63)
  have A1 := At.alloc_new2 w (.cells (byteCells R).toArray 63) 63 (byteCells (zerosB 32)).toArray
  have hF : Fr [] w ((w.alloc (.cells (byteCells R).toArray 63)).alloc (.cells (byteCells (zerosB 32)).toArray 63)) := (Fr.alloc _ _ _).trans (Fr.alloc _ _ _)
  rw [List.toList_toArray] at A0 A1
  have hsR : (byteCells R).toArray.size = 32 := by simp [byteCells_length, hR]
  have hqw : w.heap.size ≤ w.heap.size + 1 := by omega
  clear hX hXl hR
  go_enter Tryd.func40, Tryd.ntmps40
  go_upto_region 1 with fail
  rw [lit32]
  obtain ⟨p, hp⟩ : ∃ p, p = w.heap.size := ⟨_, rfl⟩
  generalize ((w.alloc (.cells (byteCells R).toArray 63)).alloc (.cells (byteCells (zerosB 32)).toArray 63)) = W at A0 A1 hF ⊢
  rw [← hp] at A0 A1 ⊢
  have hpw : w.heap.size ≤ p + 1 := by omega
  clear hp hqw hsR
  have mk1 : True := trivial
  go_wp2_with (first
    | refine wpList_load_row rfl _ _ rfl _ rfl _ _ _ _ A0.out Tryd.underlying63 rfl hbR ?_
    | (go_at_call 31; (try rw [lit32]); refine (cP _).mono ?_; clear cP; rintro e w5 ⟨rfl, f5⟩; have A1 := f5.keep A1 (by simp); have hF := hF.trans f5)
    | refine wpList_store_row rfl _ _ _ rfl _ _ rfl rfl _ _ A1.out hbX hol hal ?_
    | fail)
  have A1 := A1.setRow (byteCells X).toArray
  refine ⟨rfl, _, ?_, rfl, hF.new (S := [p + 1]) (Fr.setRow _ _ _ _ (.inl (by simp))) (by simp; omega)⟩
  exact results_cell_row (fn := Tryd.f40) (p := 4) (ty := 63) (by rfl) _ _ (p + 1) 63 (byteCells X).toArray (0, 0) _ rfl A1.out Tryd.underlying63 rfl hbX
theorem ba_list0 (b : ByteArray) : (⟨b.data.toList.toArray⟩ : ByteArray) = b := by simp
set_option maxRecDepth 100000 in
set_option maxHeartbeats 8000000 in
theorem explain_any (master : ByteArray) (ps : List ByteArray) (ad : Option Addr) (cap : Nat) (hn : ps.length ≤ 4194304) (w : World) (hI : First w) (hR : Roots w) (hT : Texts w ad ps) :
    Calls Tryd.prog 25 #[.string master, .slice ad ps.length cap] w fun e w' => e = .returned (.tuple #[.string ⟨(explV master.data.toList ps).1.toArray⟩, .int .i64 (explV master.data.toList ps).2]) ∧ Fr [] w w' := by
  have hi2 : (Tryd.prog.info? 69).map (·.size) = some 2 := by kernel_rfl
  have cT := together_any ps ad cap hn w hI hR hT
  have hml : master.data.toList.length = master.size := by simp
  by_cases hm : master.size = 32
  · have b0 : ((master.size : Int) != 32) = false := by simp [hm]
    have hm32 : master.data.toList.length = 32 := by rw [hml]; exact hm
    by_cases hE : togE ps = 0
    · obtain ⟨z1, z2, z3⟩ := togE_zero hE
      have h32 : ∀ s ∈ ps, (ptO s).2.length = 32 := fun s hs => valD_len _ (z1 s hs)
      obtain ⟨n, hnd⟩ : ∃ n, n = ps.length := ⟨_, rfl⟩
      obtain ⟨l, hL⟩ : ∃ l, l = ps.map ptO := ⟨_, rfl⟩
      have hll : l.length = n := by rw [hL, hnd]; simp
      have hl32 : ∀ p ∈ l, p.2.length = 32 := fun p hp => by
        rw [hL] at hp
        obtain ⟨t, ht, rfl⟩ := List.mem_map.1 hp
        exact h32 t ht
      obtain ⟨R, hRd⟩ : ∃ R, R = explV master.data.toList ps := ⟨_, rfl⟩
      obtain ⟨T, hTd⟩ : ∃ T, T = explN n master.data.toList l := ⟨_, rfl⟩
      have cT : Calls Tryd.prog 35 #[.slice ad ps.length cap] w fun e w' => Fr [] w w' ∧ ∃ (A : Option Addr) (c : Nat) (k : Nat × ByteArray), n ≤ c ∧ c ≤ maxLen ∧ e = .returned (.tuple #[.slice A n c, .agg (kinCells k).toArray, .int .i64 0]) ∧ k.1 ≤ 16 ∧ (0 < n → n + 1 ≠ k.1 → R = ([], 262)) ∧ ((n = 0 ∨ n + 1 = k.1) → R = (T, 0)) ∧ (0 < n → ∃ g, A = some ⟨g, 0, none⟩ ∧ WPts w' g 0 l ∧ w.heap.size ≤ g) := cT.mono (by
        rintro e w' ⟨f, v, K, rfl, _, h1⟩
        obtain ⟨h2, h3, h4⟩ := h1 hE
        refine ⟨f, ?_⟩
        rw [hE]
        by_cases h0 : ps = []
        · have hK := h3 h0
          subst hK
          have hn0 : n = 0 := by rw [hnd, h0]; rfl
          have hR0 : R = (T, 0) := by rw [hRd, expl_none hm32 hE h0, hTd, hn0]; rfl
          rw [← hnd, hn0] at h2
          rw [hn0]
          rcases ownsRow_forms h2 with ⟨rfl, _⟩ | ⟨g, c, rfl⟩
          · exact ⟨_, _, (0, ⟨#[]⟩), by omega, by simp [maxLen], rfl, by simp, fun h => by omega, fun _ => hR0, fun h => by omega⟩
          · exact ⟨_, _, (0, ⟨#[]⟩), by omega, (own_cap h2).2, rfl, by simp, fun h => by omega, fun _ => hR0, fun h => by omega⟩
        · obtain ⟨s, hs⟩ : ∃ s, ps[0]? = some s := ⟨_, List.getElem?_eq_getElem (by cases ps <;> simp_all)⟩
          have hl0 : 0 < ps.length := (List.getElem?_eq_some_iff.1 hs).1
          have hK := h4 s hs
          subst hK
          obtain ⟨g, c, rfl⟩ := ownsRow_form h2 hl0
          rw [hnd]
          refine ⟨_, c, kinO s, (own_cap h2).1, (own_cap h2).2, rfl, ?_, fun _ hk => ?_, fun hk => ?_, fun _ => ⟨g, rfl, ?_, (h2.lt g rfl).1⟩⟩
          · exact (isE_parts _ (z1 s (List.mem_of_getElem? hs))).2.2.2.2.2.2
          · rw [hRd, expl_few hm32 hE s hs hk]
          · rw [hRd, expl_ok hm32 hE s hs (by omega), hTd, hL, hnd]
          · rw [hL]; exact wpts_own h2 h32)
      rw [← hRd]
      rw [← hnd] at cT ⊢
      have hn1 : n ≤ 4194304 := by omega
      obtain ⟨ml, hmld⟩ : ∃ ml, ml = master.data.toList := ⟨_, rfl⟩
      have cRw := fun w => rows_any master 1 (by omega) (by omega) w
      rw [← hmld] at hm32 hTd cRw
      have HM := Lib.hid (And.intro hm32 (And.intro hll (And.intro hl32 hTd)))
      have hsr : ∀ X : List UInt8, X.length = 32 → (Tryd.prog.info? 63).map (·.size) = some (byteCells X).toArray.size := fun X h => by
        rw [List.size_toArray, byteCells_length, h]; kernel_rfl
      have hmr := hsr ml hm32
      have hol1 : (byteCells (zerosB 32)).toArray.size = (byteCells ml).toArray.size := by simp [byteCells_length, hm32, zerosB]
      have hal : ∀ X : List UInt8, (byteCells X).toArray.all (·.oneCell') = true := fun X => all_oneCell_toArray (byteCells_one X)
      have HAL := Lib.hid (And.intro hsr hal)
      have halm := hal ml
      clear hE z1 z2 z3 h32 hnd hL hll hl32 hRd hTd hm hm32 hml hmld hn hT hsr hal
      go_enter Tryd.func25, Tryd.ntmps25
      have hol : ∀ k : Nat × ByteArray, #[Value.int .i64 0, .string ⟨#[]⟩].size = (kinCells k).toArray.size := fun k => rfl
      go_upto_region 4 with (first
        | (go_at_call 35; refine cT.mono ?_; clear cT; rintro e w1 ⟨f1, A, c, k, hc1, hc2, rfl, hk16, hR1, hR2, hW⟩; have A0 := At.alloc_new w1 69 #[.int .i64 0, .string ⟨#[]⟩])
        | refine wpList_store_row rfl _ _ _ rfl _ _ rfl rfl _ _ A0.out hi2 (hol k) (kinC_one k) ?_
        | fail)
      have A0 := A0.setRow (kinCells k).toArray
      obtain ⟨B, hBd⟩ : ∃ B, B = w1.heap.size := ⟨_, rfl⟩
      rw [← hBd] at A0 ⊢
      have hBw : w.heap.size ≤ B := by have := f1.size; omega
      have f2 : Fr [B] w1 ((w1.alloc (.cells #[.int .i64 0, .string ⟨#[]⟩] 69)).setRow B (kinCells k).toArray) := (Fr.alloc _ _ _).trans (Fr.setRow _ _ B _ (.inl (by simp)))
      have hW : 0 < n → ∃ g, A = some ⟨g, 0, none⟩ ∧ WPts ((w1.alloc (.cells #[.int .i64 0, .string ⟨#[]⟩] 69)).setRow B (kinCells k).toArray) g 0 l ∧ w.heap.size ≤ g := fun h => by
        obtain ⟨g, hA, hw, hg⟩ := hW h
        exact ⟨g, hA, hw.keep f2 (by have := hw.1.1; simp; omega), hg⟩
      have hF := f1.new f2 (by simp; omega)
      clear f1 f2 hBd
      generalize ((w1.alloc (.cells #[.int .i64 0, .string ⟨#[]⟩] 69)).setRow B (kinCells k).toArray) = W at A0 hW hF ⊢
      try simp only [Act.put]
      have A0 : At W B 69 (kinCells k) := A0
      have q0 : W.cell? ⟨B, 0, none⟩ = some (.int .i64 k.1) := A0.cell 0
      have wk : IntKind.i64.wrap ((k.1 : Int) - 1) = (k.1 : Int) - 1 := IntWalk.i64_in _ (by omega)
      have HR := Lib.hid (And.intro hR1 (And.intro hR2 hW))
      clear hR1 hR2 hW
      by_cases h1 : 0 < n ∧ n + 1 ≠ k.1
      · have l1 : (0 : Int) < n := by omega
        have l2 : ((n : Int) != (k.1 : Int) - 1) = true := by simp; omega
        have hRR := HR.out.1 h1.1 h1.2
        have HRR := Lib.hid hRR
        clear h1 hRR
        go_wp2_with fail
        go_ret2
        exact ⟨by rw [HRR.out]; rfl, hF⟩
      · have hRR := HR.out.2.1 (by omega)
        have HRR := Lib.hid hRR
        have hn16 : n ≤ 16 := by omega
        by_cases h2 : n = 0
        · have l1 : ¬ (0 : Int) < n := by omega
          have HZ := Lib.hid h2
          clear h2 hRR
          go_upto_region 8 with fail
          clear l1 h1 q0 wk
          go_upto_region 10 with (first
            | (go_at_call 30; refine (cRw _).mono ?_; clear cRw; rintro e w2 ⟨g0, rfl, hg0, AR, f2⟩; have A9 := At.alloc_new w2 63 (byteCells (zerosB 32)).toArray)
            | refine wpList_load_row rfl _ _ rfl _ rfl _ _ _ _ AR.out Tryd.underlying63 rfl hmr ?_
            | (rw [lit32]; refine wpList_store_row rfl _ _ _ rfl _ _ rfl rfl _ _ A9.out hmr hol1 halm ?_)
            | fail)
          have A9 := A9.setRow (byteCells ml).toArray
          rw [List.toList_toArray] at A9
          have hF2 := hF.trans f2
          obtain ⟨q, hq⟩ : ∃ q, q = w2.heap.size := ⟨_, rfl⟩
          rw [← hq] at A9 ⊢
          have hqw : w.heap.size ≤ q := by have := hF2.size; omega
          have f3 : Fr [q] w2 ((w2.alloc (.cells (byteCells (zerosB 32)).toArray 63)).setRow q (byteCells ml).toArray) := (Fr.alloc _ _ _).trans (Fr.setRow _ _ q _ (.inl (by simp)))
          have hF3 := hF2.new f3 (by simp; omega)
          have hW3 : 0 < n → ∃ g, A = some ⟨g, 0, none⟩ ∧ WPts ((w2.alloc (.cells (byteCells (zerosB 32)).toArray 63)).setRow q (byteCells ml).toArray) g 0 l ∧ w.heap.size ≤ g ∧ g ≠ q := fun h => by
            obtain ⟨g, hA, hw, hg⟩ := HR.out.2.2 h
            have hlt := hw.1.1
            have := f2.size
            exact ⟨g, hA, (hw.keep f2 (by simp)).keep f3 (by simp; omega), hg, by omega⟩
          have HM2 := HM.out
          clear hF hF2 hq AR hg0 f2 f3 A0 hmr hol1 halm hi2
          generalize ((w2.alloc (.cells (byteCells (zerosB 32)).toArray 63)).setRow q (byteCells ml).toArray) = W3 at A9 hF3 hW3 ⊢
          try simp only [Act.put]
          have rel0 : ∃ (m c' : Nat) (A' : Option Addr) (L : List Pt) (low : List UInt8) (C : ByteArray), Value.slice A n c = .slice A' m c' ∧ m ≤ c' ∧ c' ≤ maxLen ∧ L.length = m ∧ m ≤ n ∧ (∀ p ∈ L, p.2.length = 32) ∧ low.length = 32 ∧ Value.string ⟨#[]⟩ = .string C ∧ C.size + 32 * m = 32 * n ∧ C.data.toList ++ explN m low L = T ∧ (0 < m → ∃ g o, A' = some ⟨g, o, none⟩ ∧ WPts W3 g o L ∧ w.heap.size ≤ g ∧ g ≠ q) ∧ At W3 q 63 (byteCells low) ∧ Fr [] w W3 :=
            ⟨n, c, A, l, ml, ⟨#[]⟩, rfl, hc1, hc2, HM2.2.1, Nat.le_refl _, HM2.2.2.1, HM2.1, rfl, by show 0 + 32 * n = 32 * n; omega, by rw [HM2.2.2.2]; rfl, fun h => by obtain ⟨g, h1, h2, h3, h4⟩ := hW3 h; exact ⟨g, 0, h1, h2, h3, h4⟩, A9, hF3⟩
          clear A9 hF3 hW3 HM2
          go_loopw [6, 9, 11, 12] (fun v6 v9 _ _ wr => ∃ (m c' : Nat) (A' : Option Addr) (L : List Pt) (low : List UInt8) (C : ByteArray), v6 = .slice A' m c' ∧ m ≤ c' ∧ c' ≤ maxLen ∧ L.length = m ∧ m ≤ n ∧ (∀ p ∈ L, p.2.length = 32) ∧ low.length = 32 ∧ v9 = .string C ∧ C.size + 32 * m = 32 * n ∧ C.data.toList ++ explN m low L = T ∧ (0 < m → ∃ g o, A' = some ⟨g, o, none⟩ ∧ WPts wr g o L ∧ w.heap.size ≤ g ∧ g ≠ q) ∧ At wr q 63 (byteCells low) ∧ Fr [] w wr) (fun v _ _ _ _ => slN v)
          case atStart => exact rel0
          case round =>
            clear rel0
            obtain ⟨m, c', A', L, low, C, rfl, hmc, hcm, hLm, hmn, hL32, hlow, rfl, hCs, hTT, hW, A9, hF⟩ := hrel
            by_cases hm0 : 0 < m
            · have := HZ.out; omega
            · obtain rfl : m = 0 := by omega
              have hCT : C.data.toList = T := by rw [← hTT]; simp [explN]
              have HC := Lib.hid hCT
              clear hCT hTT hW
              go_wp2_with fail
              go_ret2
              exact ⟨by rw [HRR.out, ← HC.out, ba_list0]; rfl, hF⟩
        · have l1 : (0 : Int) < n := by omega
          have l2 : ((n : Int) != (k.1 : Int) - 1) = false := by
            have : (n : Int) = (k.1 : Int) - 1 := by omega
            rw [this]; simp
          clear h2 hRR
          go_upto_region 8 with fail
          clear l2
          clear l1 h1 q0 wk
          go_upto_region 10 with (first
            | (go_at_call 30; refine (cRw _).mono ?_; clear cRw; rintro e w2 ⟨g0, rfl, hg0, AR, f2⟩; have A9 := At.alloc_new w2 63 (byteCells (zerosB 32)).toArray)
            | refine wpList_load_row rfl _ _ rfl _ rfl _ _ _ _ AR.out Tryd.underlying63 rfl hmr ?_
            | (rw [lit32]; refine wpList_store_row rfl _ _ _ rfl _ _ rfl rfl _ _ A9.out hmr hol1 halm ?_)
            | fail)
          have A9 := A9.setRow (byteCells ml).toArray
          rw [List.toList_toArray] at A9
          have hF2 := hF.trans f2
          obtain ⟨q, hq⟩ : ∃ q, q = w2.heap.size := ⟨_, rfl⟩
          rw [← hq] at A9 ⊢
          have hqw : w.heap.size ≤ q := by have := hF2.size; omega
          have f3 : Fr [q] w2 ((w2.alloc (.cells (byteCells (zerosB 32)).toArray 63)).setRow q (byteCells ml).toArray) := (Fr.alloc _ _ _).trans (Fr.setRow _ _ q _ (.inl (by simp)))
          have hF3 := hF2.new f3 (by simp; omega)
          have hW3 : 0 < n → ∃ g, A = some ⟨g, 0, none⟩ ∧ WPts ((w2.alloc (.cells (byteCells (zerosB 32)).toArray 63)).setRow q (byteCells ml).toArray) g 0 l ∧ w.heap.size ≤ g ∧ g ≠ q := fun h => by
            obtain ⟨g, hA, hw, hg⟩ := HR.out.2.2 h
            have hlt := hw.1.1
            have := f2.size
            exact ⟨g, hA, (hw.keep f2 (by simp)).keep f3 (by simp; omega), hg, by omega⟩
          have HM2 := HM.out
          clear hF hF2 hq AR hg0 f2 f3 A0 hmr hol1 halm hi2
          generalize ((w2.alloc (.cells (byteCells (zerosB 32)).toArray 63)).setRow q (byteCells ml).toArray) = W3 at A9 hF3 hW3 ⊢
          try simp only [Act.put]
          have rel0 : ∃ (m c' : Nat) (A' : Option Addr) (L : List Pt) (low : List UInt8) (C : ByteArray), Value.slice A n c = .slice A' m c' ∧ m ≤ c' ∧ c' ≤ maxLen ∧ L.length = m ∧ m ≤ n ∧ (∀ p ∈ L, p.2.length = 32) ∧ low.length = 32 ∧ Value.string ⟨#[]⟩ = .string C ∧ C.size + 32 * m = 32 * n ∧ C.data.toList ++ explN m low L = T ∧ (0 < m → ∃ g o, A' = some ⟨g, o, none⟩ ∧ WPts W3 g o L ∧ w.heap.size ≤ g ∧ g ≠ q) ∧ At W3 q 63 (byteCells low) ∧ Fr [] w W3 :=
            ⟨n, c, A, l, ml, ⟨#[]⟩, rfl, hc1, hc2, HM2.2.1, Nat.le_refl _, HM2.2.2.1, HM2.1, rfl, by show 0 + 32 * n = 32 * n; omega, by rw [HM2.2.2.2]; rfl, fun h => by obtain ⟨g, h1, h2, h3, h4⟩ := hW3 h; exact ⟨g, 0, h1, h2, h3, h4⟩, A9, hF3⟩
          clear A9 hF3 hW3 HM2
          go_loopw [6, 9, 11, 12] (fun v6 v9 _ _ wr => ∃ (m c' : Nat) (A' : Option Addr) (L : List Pt) (low : List UInt8) (C : ByteArray), v6 = .slice A' m c' ∧ m ≤ c' ∧ c' ≤ maxLen ∧ L.length = m ∧ m ≤ n ∧ (∀ p ∈ L, p.2.length = 32) ∧ low.length = 32 ∧ v9 = .string C ∧ C.size + 32 * m = 32 * n ∧ C.data.toList ++ explN m low L = T ∧ (0 < m → ∃ g o, A' = some ⟨g, o, none⟩ ∧ WPts wr g o L ∧ w.heap.size ≤ g ∧ g ≠ q) ∧ At wr q 63 (byteCells low) ∧ Fr [] w wr) (fun v _ _ _ _ => slN v)
          case atStart => exact rel0
          case round =>
            clear rel0
            obtain ⟨m, c', A', L, low, C, rfl, hmc, hcm, hLm, hmn, hL32, hlow, rfl, hCs, hTT, hW, A9, hF⟩ := hrel
            by_cases hm0 : 0 < m
            · have l1 : (0 : Int) < m := by omega
              have hWf := hW
              clear hW
              obtain ⟨g, o, rfl, hW, hgw, hgq⟩ := hWf hm0
              clear hWf
              have HT := Lib.hid (And.intro hLm (And.intro hL32 (And.intro hlow (And.intro hTT hCs))))
              clear hLm hL32 hTT hlow
              go_upto_region 12 with fail
              go_loopw [11, 12, 47] (fun _ _ v47 wr => ∃ i : Nat, i ≤ m ∧ v47 = .int .i64 i ∧ WPts wr g o ((stepPts low L).take i ++ L.drop i) ∧ At wr q 63 (byteCells low) ∧ Fr [] w wr) (fun _ _ v _ => m - (intOf v).toNat)
              case atStart => exact ⟨0, by omega, rfl, by simpa using hW, A9, hF⟩
              case round =>
                clear hW A9 hF
                obtain ⟨i, hi, rfl, hW, A9, hF⟩ := hrel
                by_cases hl : i < m
                · have l2 : (i : Int) < m := by omega
                  obtain ⟨P, hPn⟩ : ∃ P, L[i]? = some P := ⟨_, List.getElem?_eq_getElem (by have := HT.out.1; omega)⟩
                  have hPl : P.2.length = 32 := HT.out.2.1 P (List.mem_of_getElem? hPn)
                  have hlow := HT.out.2.2.1
                  have hcur := step_cur low L i (by have := HT.out.1; omega)
                  have hld : wr.rangeAt g (o + i * 33) (ptCells P) := hW.1.2 i P (by rw [hcur]; exact hPn)
                  have hi3 : (Tryd.prog.info? 66).map (·.size) = some (ptCells P).length := by rw [ptCells_len P hPl]; kernel_rfl
                  have hi3' : (Tryd.prog.info? 66).map (·.size) = some (ptCells P).toArray.size := by rw [List.size_toArray]; exact hi3
                  have hold : (List.replicate 33 (Value.int .u8 0)).toArray.size = (ptCells P).toArray.size := by rw [List.size_toArray, List.size_toArray, ptCells_len P hPl]; rfl
                  have A2 := At.alloc_new wr 66 (List.replicate 33 (Value.int .u8 0)).toArray
                  obtain ⟨r, hr⟩ : ∃ r, r = wr.heap.size := ⟨_, rfl⟩
                  rw [← hr] at A2
                  have hrw : w.heap.size ≤ r := by have := hF.size; omega
                  have hqr : q ≠ r := by have := A9.lt; omega
                  have hgr : g ≠ r := by have := hW.1.1; omega
                  have hset := step_prefix low L i P hPn
                  have hall := step_all low L i hlow HT.out.2.1
                  have hthere := hW.there1 i (by have := HT.out.1; simp [stepPts_len]; omega)
                  have HP := Lib.hid (And.intro hPn (And.intro hPl (And.intro hset (And.intro hall hcur))))
                  clear hPn hPl hset hall hlow hcur hthere
                  go_upto_region 14 with (first
                    | refine wpList_load_mid rfl _ _ rfl g (o + i * 33) rfl (ptCells P) _ hld Tryd.underlying66 rfl hi3 ?_
                    | (rw [lit33, ← hr]; refine wpList_store_row rfl _ _ _ rfl _ _ rfl rfl _ _ A2.out hi3' hold (ptCells_one _) ?_)
                    | fail)
                  have A2 := A2.setRow (ptCells P).toArray
                  rw [List.toList_toArray] at A2
                  have f6 : Fr [r] wr ((wr.alloc (.cells (List.replicate 33 (Value.int .u8 0)).toArray 66)).setRow r (ptCells P).toArray) := (Fr.alloc _ _ _).trans (Fr.setRow _ _ r _ (.inl (by simp)))
                  have A9 := f6.keep A9 (by simp; omega)
                  have hW := hW.keep f6 (by simp; omega)
                  have hF := hF.new f6 (by simp; omega)
                  clear f6 hr hld hold
                  generalize (wr.alloc (.cells (List.replicate 33 (Value.int .u8 0)).toArray 66)).setRow r (ptCells P).toArray = W2 at A9 A2 hW hF ⊢
                  try simp only [Act.put]
                  have hPl := HP.out.2.1
                  have hlow := HT.out.2.2.1
                  have hmid : ∀ w', At w' r 66 (ptCells P) → w'.rangeAt r 1 (byteCells P.2) := fun w' h j v hv => by
                    rw [h.cell, ← hv, Nat.add_comm]; rfl
                  have hi5 : (Tryd.prog.info? 63).map (·.size) = some (byteCells P.2).length := by rw [byteCells_length, hPl]; kernel_rfl
                  have ldR : ∀ w', At w' r 66 (ptCells P) → (loadVar 63 ⟨r, 1, none⟩).run Tryd.prog w' = .ok (.agg (byteCells P.2).toArray) w' := fun w' h => run_loadVar_mid (P := Tryd.prog) w' r 1 63 (byteCells P.2) _ (hmid w' h) Tryd.underlying63 rfl hi5
                  have hi6 := HAL.out.1 low hlow
                  have ldL : ∀ w', At w' q 63 (byteCells low) → (loadVar 63 ⟨q, 0, none⟩).run Tryd.prog w' = .ok (.agg (byteCells low).toArray) w' := fun w' h => run_loadVar_row w' q 63 63 (byteCells low).toArray _ _ h.out Tryd.underlying63 rfl hi6
                  obtain ⟨px, hpx⟩ : ∃ px, px = P.1 := ⟨_, rfl⟩
                  obtain ⟨py, hpy⟩ : ∃ py, py = P.2 := ⟨_, rfl⟩
                  rw [← hpy] at ldR
                  have m1 := fun w => plus_any py low 1 (by rw [hpy]; exact hPl) hlow w
                  rw [show bt 1 = 1 from rfl] at m1
                  have m2 := fun w => inv_any px w
                  have m3 := fun w => times_any (plusR py low 1) (ginv px) (by rw [plusR_len _ _ _ (by rw [hpy]; omega), hpy]; exact hPl) w
                  obtain ⟨y, hy⟩ : ∃ y, y = timesR (plusR py low 1) (ginv px) := ⟨_, rfl⟩
                  have hyl : y.length = 32 := by rw [hy, timesR_len _ _ (by rw [plusR_len _ _ _ (by rw [hpy]; omega), hpy]; exact hPl)]
                  have hys : y = (stepPt low P).2 := by rw [hy, hpx, hpy]; rfl
                  rw [← hy] at m3
                  have hi7 := HAL.out.1 y hyl
                  have hi8 := HAL.out.2 y
                  have HPX := Lib.hid (And.intro hpx (And.intro hpy (And.intro hys hyl)))
                  have mkS : ∀ w', At w' r 66 (ptCells P) → At w' q 63 (byteCells low) → w'.cell? ⟨r, 0, none⟩ = some (.int .u8 (bt px)) ∧ (loadVar 63 ⟨r, 1, none⟩).run Tryd.prog w' = .ok (.agg (byteCells py).toArray) w' ∧ (loadVar 63 ⟨q, 0, none⟩).run Tryd.prog w' = .ok (.agg (byteCells low).toArray) w' := fun w' h1 h2 => ⟨by rw [h1.cell 0, hpx]; rfl, ldR w' h1, ldL w' h2⟩
                  clear hpx hpy ldR ldL hmid hi5 hi6 hi3 hi3' hPl hy hys hyl
                  refine wp_region_until (fun w' => w'.cell? ⟨r, 0, none⟩ = some (.int .u8 (bt px)) ∧ (loadVar 63 ⟨r, 1, none⟩).run Tryd.prog w' = .ok (.agg (byteCells py).toArray) w' ∧ (loadVar 63 ⟨q, 0, none⟩).run Tryd.prog w' = .ok (.agg (byteCells low).toArray) w') (fun _ => True) 1000 (by rfl) ?_
                  have hT : True := trivial
                  have A9 := A9.drew
                  have A2 := A2.drew
                  have hW := hW.keep (Fr.drew [] _) (by simp)
                  have hF := hF.trans (Fr.drew [] _)
                  generalize W2.drew = W4 at A9 A2 hW hF ⊢
                  have s0 := mkS _ A2 A9
                  refine until_s0 2 (v := ?_) rfl (by kernel_rfl) (fun _ _ _ h => h) (Or.inl ⟨by rfl, ?_⟩) (by assumption) (fun h => by first | assumption | exact absurd (h : true = false) (by decide)) ?_
                  rotate_left
                  · intro w hSw; (try dsimp only at hSw); (try go_simp); (try with_reducible rfl)
                  try simp only [Act.put, List.setIfInBounds_toArray, List.set_cons_zero, List.set_cons_succ]
                  refine until_s0 3 (v := .agg (byteCells py).toArray) rfl (by kernel_rfl) (fun _ _ _ h => h) (Or.inl ⟨by rfl, fun w' hS => exec_load rfl rfl hS.2.1⟩) (by assumption) (fun h => by first | assumption | exact absurd (h : true = false) (by decide)) ?_
                  simp only [Act.put, List.setIfInBounds_toArray, List.set_cons_zero, List.set_cons_succ]
                  refine until_s0 4 (v := .agg (byteCells low).toArray) rfl (by kernel_rfl) (fun _ _ _ h => h) (Or.inl ⟨by rfl, fun w' hS => exec_load rfl rfl hS.2.2⟩) (by assumption) (fun h => by first | assumption | exact absurd (h : true = false) (by decide)) ?_
                  simp only [Act.put, List.setIfInBounds_toArray, List.set_cons_zero, List.set_cons_succ]
                  refine until_s0 0 (v := ?_) rfl (by kernel_rfl) (fun _ _ _ h => h) (Or.inl ⟨by rfl, ?_⟩) (by assumption) (fun h => by first | assumption | exact absurd (h : true = false) (by decide)) ?_
                  rotate_left
                  · intro w hSw; (try dsimp only at hSw); (try go_simp); (try with_reducible rfl)
                  try simp only [Act.put, List.setIfInBounds_toArray, List.set_cons_zero, List.set_cons_succ]
                  refine until_s0 1 (v := ?_) rfl (by kernel_rfl) (fun _ _ _ h => h) (Or.inl ⟨by rfl, ?_⟩) (by assumption) (fun h => by first | assumption | exact absurd (h : true = false) (by decide)) ?_
                  rotate_left
                  · intro w hSw; (try dsimp only at hSw); (try go_simp); (try with_reducible rfl)
                  try simp only [Act.put, List.setIfInBounds_toArray, List.set_cons_zero, List.set_cons_succ]
                  refine until_s0 6 (v := ?_) rfl (by kernel_rfl) (fun _ _ _ h => h) (Or.inl ⟨by rfl, ?_⟩) (by assumption) (fun h => by first | assumption | exact absurd (h : true = false) (by decide)) ?_
                  rotate_left
                  · intro w hSw; (try dsimp only at hSw); (try go_simp); (try with_reducible rfl)
                  try simp only [Act.put, List.setIfInBounds_toArray, List.set_cons_zero, List.set_cons_succ]
                  refine until_s0 7 (v := ?_) rfl (by kernel_rfl) (fun _ _ _ h => h) (Or.inl ⟨by rfl, ?_⟩) (by assumption) (fun h => by first | assumption | exact absurd (h : true = false) (by decide)) ?_
                  rotate_left
                  · intro w hSw; (try dsimp only at hSw); (try go_simp); (try with_reducible rfl)
                  try simp only [Act.put, List.setIfInBounds_toArray, List.set_cons_zero, List.set_cons_succ]
                  refine until_sole 5 rfl (by kernel_rfl) (by rfl) ?_
                  intro K' hK
                  go_simp
                  go_at_call 31
                  refine (m1 _).mono ?_
                  rintro _ w5 ⟨rfl, f5⟩
                  have A9 := f5.keep A9 (by simp)
                  have A2 := f5.keep A2 (by simp)
                  have hW := hW.keep f5 (by simp)
                  have hF := hF.trans f5
                  go_wp2_with fail
                  refine hK _ _ (mkS _ A2 A9) (fun _ => trivial) ?_
                  clear hK m1 s0 f5
                  have s0 := mkS _ A2 A9
                  refine until_sole 8 rfl (by kernel_rfl) (by rfl) ?_
                  intro K' hK
                  go_simp
                  go_at_call 41
                  refine (m2 _).mono ?_
                  rintro _ w6 ⟨rfl, rfl⟩
                  go_wp2_with fail
                  refine hK _ _ s0 (fun _ => trivial) ?_
                  clear hK m2
                  refine until_sole 9 rfl (by kernel_rfl) (by rfl) ?_
                  intro K' hK
                  go_simp
                  go_at_call 40
                  refine (m3 _).mono ?_
                  rintro _ w7 ⟨rfl, f7⟩
                  have A9 := f7.keep A9 (by simp)
                  have A2 := f7.keep A2 (by simp)
                  have hW := hW.keep f7 (by simp)
                  have hF := hF.trans f7
                  go_wp2_with fail
                  refine hK _ _ (mkS _ A2 A9) (fun _ => trivial) ?_
                  clear hK m3 s0 f7
                  have s0 := mkS _ A2 A9
                  refine until_s0 10 (v := ?_) rfl (by kernel_rfl) (fun _ _ _ h => h) (Or.inl ⟨by rfl, ?_⟩) (by assumption) (fun h => by first | assumption | exact absurd (h : true = false) (by decide)) ?_
                  rotate_left
                  · intro w hSw; (try dsimp only at hSw); (try go_simp); (try with_reducible rfl)
                  try simp only [Act.put, List.setIfInBounds_toArray, List.set_cons_zero, List.set_cons_succ]
                  refine until_s0 11 (v := ?_) rfl (by kernel_rfl) (fun _ _ _ h => h) (Or.inl ⟨by rfl, ?_⟩) (by assumption) (fun h => by first | assumption | exact absurd (h : true = false) (by decide)) ?_
                  rotate_left
                  · intro w hSw; (try dsimp only at hSw); (try go_simp); (try with_reducible rfl)
                  try simp only [Act.put, List.setIfInBounds_toArray, List.set_cons_zero, List.set_cons_succ]
                  refine until_sole 12 rfl (by kernel_rfl) (by rfl) ?_
                  intro K' hK
                  have hthere := hW.there1 i (by have := HT.out.1; simp [stepPts_len]; omega)
                  have hbs : (byteCells y).toArray.size = 32 := by simp [byteCells_length, HPX.out.2.2.2]
                  refine wp_store_mid 63 _ _ rfl g (o + i * 33 + 1) (byteCells y).toArray rfl rfl (by rw [hbs]; exact hthere) hi7 hi8 ?_
                  simp only [List.toList_toArray]
                  have f8 := Fr.setCells1 g (byteCells y) (o + i * 33 + 1) w7
                  have hW := hW.set HP.out.2.2.2.1 i P (by rw [HP.out.2.2.2.2]; exact HP.out.1) y HPX.out.2.2.2
                  rw [HPX.out.2.2.1, HP.out.2.2.1, ← HPX.out.2.2.1] at hW
                  have A9 := f8.keep A9 (by simp; omega)
                  have A2 := f8.keep A2 (by simp; omega)
                  have hF := hF.new f8 (by simp; omega)
                  refine hK _ _ (mkS _ A2 A9) (fun _ => trivial) ?_
                  clear hK s0 f8 mkS hthere hbs
                  generalize w7.setCells g (o + i * 33 + 1) (byteCells y) = W8 at hW A9 A2 hF ⊢
                  skip
                  refine until_done (by kernel_rfl) ?_ _
                  go_wp2_with fail
                  exact ⟨⟨i + 1, by omega, by simp, hW, A9, hF⟩, by simp only [intOf]; omega⟩
                · obtain rfl : i = m := by omega
                  obtain ⟨hLm, hL32, hlow, hTT, hCs⟩ := HT.out
                  have hSl : (stepPts low L).length = i := by rw [stepPts_len, hLm]
                  have hall := stepPts_all low L hlow hL32
                  rw [List.take_of_length_le (by omega), List.drop_of_length_le (by omega), List.append_nil] at hW
                  obtain ⟨S, hS⟩ : ∃ S, S = stepPts low L := ⟨_, rfl⟩
                  rw [← hS] at hW hSl hall
                  have cA := at_any S hall (by omega) g o c' 0 wr hW.1
                  rw [hSl, show bt 0 = 0 from rfl] at cA
                  have hal0 := atR_len S 0 hall
                  have hstep : explN i low L = atR S 0 ++ explN (i - 1) (atR S 0) S.tail := by
                    obtain ⟨j, rfl⟩ : ∃ j, i = j + 1 := ⟨i - 1, by omega⟩
                    rw [explN, ← hS]; rfl
                  obtain ⟨X, hX⟩ : ∃ X, X = atR S 0 := ⟨_, rfl⟩
                  rw [← hX] at cA hal0 hstep
                  rw [hstep] at hTT
                  obtain ⟨vs, hvs⟩ : ∃ vs : ByteArray, vs = ⟨X.toArray⟩ := ⟨_, rfl⟩
                  have hvss : vs.size = 32 := by rw [hvs]; show X.toArray.size = 32; simpa using hal0
                  have hvd : vs.data.toList = X := by rw [hvs]
                  have hcw : ∀ w' g, At w' g 63 (byteCells X) → (convert 55 9 (.slice (some ⟨g, 0, none⟩) 32 32)).run Tryd.prog w' = .ok (.string vs) w' := fun w' g h => by
                    rw [hvs]; exact run_strB (P := Tryd.prog) (d := 9) Tryd.underlying55 Tryd.underlying5 Tryd.underlying9 w' g 0 32 63 X [] [] (by simpa using h) rfl 32 hal0.symm
                  have hi9 := HAL.out.1 X hal0
                  have hol9 : (byteCells low).toArray.size = (byteCells X).toArray.size := by simp [byteCells_length, hal0, hlow]
                  have hal9 := HAL.out.2 X
                  have k1 : ¬ 9223372036854775807 < C.size + vs.size := by omega
                  obtain ⟨p, S', hSS⟩ : ∃ p S', S = p :: S' := by
                    cases S with
                    | nil => simp at hSl; omega
                    | cons p S' => exact ⟨p, S', rfl⟩
                  rw [hSS] at hW hSl hall hTT
                  have HV := Lib.hid (And.intro hvss (And.intro hvd (And.intro hal0 (And.intro hSl (And.intro hall (And.intro hTT hCs))))))
                  clear hLm hL32 hlow hTT hCs hSl hall hS hal0 hstep hX hvs hvss hvd hSS hl
                  go_upto_region 17 with (first
                    | (go_at_call 36; refine cA.mono ?_; clear cA; rintro e w5 ⟨rfl, f5⟩; have hF := hF.trans f5; have A9 := f5.keep A9 (by simp); have hW := hW.keep f5 (by simp))
                    | refine wpList_store_row rfl _ _ _ rfl _ _ rfl rfl _ _ A9.out hi9 hol9 hal9 ?_
                    | fail)
                  have A9 := A9.setRow (byteCells X).toArray
                  rw [List.toList_toArray] at A9
                  have f6 := Fr.setRow [q] w5 q (byteCells X).toArray (.inl (by simp))
                  have hW := hW.keep f6 (by simp; exact hgq)
                  have hF := hF.new f6 (by simp; omega)
                  clear f5 f6
                  generalize w5.setRow q (byteCells X).toArray = W5 at A9 hW hF ⊢
                  try simp only [Act.put]
                  have hc9 := hcw _ _ A9
                  clear hcw hi9 hol9 hal9
                  go_upto_region 18 with fail
                  clear hc9 k1
                  have l3 : (1 : Int) ≤ i := by omega
                  have l4 : (i : Int) ≤ c' := by omega
                  obtain ⟨hvss, hvd, hal0, hSl, hall, hTT, hCs⟩ := HV.out
                  have rel : ∀ (A2 : Option Addr), (0 < i - 1 → A2 = some ⟨g, o + 33, none⟩) → ∃ (m c'' : Nat) (A' : Option Addr) (L : List Pt) (low : List UInt8) (C' : ByteArray), Value.slice A2 (i - 1) (c' - 1) = .slice A' m c'' ∧ m ≤ c'' ∧ c'' ≤ maxLen ∧ L.length = m ∧ m ≤ n ∧ (∀ p ∈ L, p.2.length = 32) ∧ low.length = 32 ∧ Value.string (C ++ vs) = .string C' ∧ C'.size + 32 * m = 32 * n ∧ C'.data.toList ++ explN m low L = T ∧ (0 < m → ∃ g o, A' = some ⟨g, o, none⟩ ∧ WPts W5 g o L ∧ w.heap.size ≤ g ∧ g ≠ q) ∧ At W5 q 63 (byteCells low) ∧ Fr [] w W5 := fun A2 hA2 =>
                    ⟨i - 1, c' - 1, A2, S', X, C ++ vs, rfl, by omega, by omega, by simp at hSl; omega, by omega, fun p hp => hall p (by simp [hp]), hal0, rfl, by rw [ByteArray.size_append]; omega, by
                      rw [ByteArray.data_append, Array.toList_append, hvd, List.append_assoc]; exact hTT, fun h => ⟨g, o + 33, hA2 h, hW.tail, hgw, hgq⟩, A9, hF⟩
                  have HREL := Lib.hid rel
                  clear hvss hvd hal0 hSl hall hTT hCs rel
                  by_cases hc1 : c' = 1
                  · go_wp2_with fail
                    refine ⟨?_, by show i - 1 < i; omega⟩
                    have := HREL.out (some ⟨g, o, none⟩) (fun h => by omega)
                    rwa [show c' - 1 = 0 by omega] at this
                  · go_wp2_with fail
                    exact ⟨HREL.out _ (fun _ => rfl), by show i - 1 < i; omega⟩
            · obtain rfl : m = 0 := by omega
              have hCT : C.data.toList = T := by rw [← hTT]; simp [explN]
              have HC := Lib.hid hCT
              clear hCT hTT hW
              go_wp2_with fail
              go_ret2
              exact ⟨by rw [HRR.out, ← HC.out, ba_list0]; rfl, hF⟩
    · have b1 : (togE ps != 0) = true := by simpa using hE
      rw [expl_bad hm32 hE]
      obtain ⟨E, hEd⟩ : ∃ E, E = togE ps := ⟨_, rfl⟩
      rw [← hEd] at b1 ⊢
      have cT : Calls Tryd.prog 35 #[.slice ad ps.length cap] w fun e w' => Fr [] w w' ∧ e = .returned (.tuple #[.slice none 0 0, kin0, .int .i64 E]) := cT.mono (by
        rintro e w' ⟨f, v, K, rfl, h1, _⟩
        obtain ⟨rfl, rfl⟩ := h1 hE
        exact ⟨f, by rw [hEd]⟩)
      clear hE hEd hm hm32 hml
      go_enter Tryd.func25, Tryd.ntmps25
      unfold kin0 at cT
      go_wp2_with (first
        | (go_at_call 35; refine cT.mono ?_; clear cT; rintro e w1 ⟨f1, rfl⟩; have A0 := At.alloc_new w1 69 #[.int .i64 0, .string ⟨#[]⟩])
        | refine wpList_store_row rfl _ _ _ rfl _ _ rfl rfl _ _ A0.out hi2 rfl (kin_one _ _) ?_
        | fail)
      go_ret2
      refine ⟨rfl, (f1.trans (Fr.alloc _ _ _)).new (Fr.setRow [w1.heap.size] _ w1.heap.size _ (.inl (by simp))) (by have := f1.size; simp; omega)⟩
  · have b0 : ((master.size : Int) != 32) = true := by simp; omega
    rw [expl_key (by rw [hml]; exact hm)]
    clear cT hml hm
    go_enter Tryd.func25, Tryd.ntmps25
    go_wp2_with fail
    go_ret2
    exact ⟨rfl, Fr.refl _ _⟩
end Go.Proofs.YtffhfmaphjjffaaDoor
namespace Go.Proofs.YtffhfmaphjjffaaDoor
open Go.RowKit Go.Lib Go.Joins Base Gf
set_option linter.unusedVariables false
set_option linter.unusedSimpArgs false

theorem zeros_get (j : Nat) (h : j < 32) : (zerosB 32).getD j 0 = 0 := by
  unfold zerosB; rw [List.getD, List.getElem?_replicate, if_pos h]; rfl
theorem stepPt_get (low : List UInt8) (p : Pt) (j : Nat) (hj : j < 32) (h1 : low.length = 32) (h2 : p.2.length = 32) : (stepPt low p).2.getD j 0 = gmul (p.2.getD j 0 ^^^ low.getD j 0) (ginv p.1) := by
  show (timesR (plusR p.2 low 1) (ginv p.1)).getD j 0 = _
  rw [timesR, plusR_get _ _ _ _ (by simp [zerosB]; omega) (by rw [plusR_len _ _ _ (by omega)]; omega), zeros_get j hj, plusR_get _ _ _ _ (by omega) (by omega), gmul_one, UInt8.zero_xor]
theorem xsOf_steps (low : List UInt8) (L : List Pt) : xsOf (stepPts low L) = xsOf L := by simp [xsOf, stepPts, stepPt]
theorem xsOf_tail (L : List Pt) : xsOf L.tail = (xsOf L).tail := by simp [xsOf]
/-- Row by row they are the coefficients above the lowest, of any polynomials through the points and the value at 0. -/
theorem expl_poly : ∀ (n : Nat) (L : List Pt) (low : List UInt8) (P : Nat → List UInt8), L.length = n → (xsOf L).Nodup → (∀ x ∈ xsOf L, x ≠ 0) → (∀ p ∈ L, p.2.length = 32) → low.length = 32 → (∀ j, j < 32 → (P j).length = n + 1) →
    (∀ j, j < 32 → low.getD j 0 = (P j).getD 0 0) → (∀ p ∈ L, ∀ j, j < 32 → p.2.getD j 0 = ev (P j) p.1) → ∀ t, t < n → ∀ j, j < 32 → (explN n low L).getD (32 * t + j) 0 = (P j).getD (t + 1) 0
  | 0, _, _, _, _, _, _, _, _, _, _, _, t, ht, _, _ => by omega
  | n + 1, L, low, P, hL, hn, h0, h32, hlow, hP, hP0, hv, t, ht, j, hj => by
    obtain ⟨S, hS⟩ : ∃ S, S = stepPts low L := ⟨_, rfl⟩
    have hSl : S.length = n + 1 := by rw [hS, stepPts_len, hL]
    have hSx : xsOf S = xsOf L := by rw [hS, xsOf_steps]
    have hS32 : ∀ p ∈ S, p.2.length = 32 := by rw [hS]; exact stepPts_all low L hlow h32
    have hSv : ∀ p ∈ S, ∀ j, j < 32 → p.2.getD j 0 = ev ((P j).tail) p.1 := fun p hp j hj => by
      rw [hS] at hp
      obtain ⟨r, hr, rfl⟩ := List.mem_map.1 hp
      rw [stepPt_get low r j hj hlow (h32 r hr), hv r hr j hj, hP0 j hj]
      show _ = ev ((P j).tail) r.1
      have hl := hP j hj
      obtain ⟨a, c, hac⟩ : ∃ a c, P j = a :: c := by
        cases h : P j with
        | nil => rw [h] at hl; simp at hl
        | cons a c => exact ⟨a, c, rfl⟩
      rw [hac]
      show gmul (ev (a :: c) r.1 ^^^ a) (ginv r.1) = ev c r.1
      have hx0 : r.1 ≠ 0 := h0 r.1 (List.mem_map.2 ⟨r, hr, rfl⟩)
      rw [ev, show a ^^^ gmul (ev c r.1) r.1 ^^^ a = gmul (ev c r.1) r.1 by rw [UInt8.xor_comm a, UInt8.xor_assoc, UInt8.xor_self, UInt8.xor_zero], gmul_assoc, gmul_ginv hx0, gmul_one]
    have hX : ∀ j, j < 32 → (atR S 0).getD j 0 = (P j).tail.getD 0 0 := fun j hj => by
      rw [atR_get S 0 j hj hS32, atP_poly _ _ ((P j).tail) (by rw [hSx]; exact hn) (by rw [xsOf_len, hSl, List.length_tail, hP j hj]; rfl) (fun i hi => ?_), ev_zero]
      rw [xsOf_len] at hi
      have hg := List.getElem?_eq_getElem hi
      rw [xsOf_get S i _ hg, ysOf_get S i j _ hg, hSv _ (List.getElem_mem hi) j hj]
    have hXl := atR_len S 0 hS32
    have htl : ∀ (c : List UInt8) (i : Nat), c.tail.getD i 0 = c.getD (i + 1) 0 := fun c i => by cases c <;> simp [List.getD]
    rw [explN, ← hS]
    cases t with
    | zero =>
      rw [Nat.mul_zero, Nat.zero_add, getD_app _ _ _ (by omega), hX j hj, htl]
    | succ t =>
      have e : (atR S 0 ++ explN n (atR S 0) S.tail).getD (32 * (t + 1) + j) 0 = (explN n (atR S 0) S.tail).getD (32 * t + j) 0 := by
        rw [List.getD, List.getD, List.getElem?_append_right (by omega), hXl, show 32 * (t + 1) + j - 32 = 32 * t + j by omega]
      rw [e]
      have hts : xsOf S.tail = (xsOf L).tail := by rw [xsOf_tail, hSx]
      rw [expl_poly n S.tail (atR S 0) (fun j => (P j).tail) (by rw [List.length_tail, hSl]; rfl) (by rw [hts]; exact hn.sublist (List.tail_sublist _)) (fun x hx => h0 x (by rw [hts] at hx; exact List.mem_of_mem_tail hx)) (fun p hp => hS32 p (List.mem_of_mem_tail hp)) hXl (fun j hj => by rw [List.length_tail, hP j hj]; rfl) hX (fun p hp => hSv p (List.mem_of_mem_tail hp)) t (by omega) j hj, htl]
/-- The polynomials through the points and the key's byte at 0. -/
def thrK (low : List UInt8) (L : List Pt) (j : Nat) : List UInt8 := thr (xsOf L ++ [0]) (ysOf L j ++ [low.getD j 0])
theorem thrK_len (low : List UInt8) (L : List Pt) (j : Nat) : (thrK low L j).length = L.length + 1 := by rw [thrK, thr_len, List.length_append, xsOf_len]; rfl
theorem xs0_nodup {xs : List UInt8} (hn : xs.Nodup) (h0 : ∀ x ∈ xs, x ≠ 0) : (xs ++ [0]).Nodup := by
  rw [List.nodup_append]
  exact ⟨hn, by simp, fun a ha b hb => by rw [List.mem_singleton.1 hb]; exact h0 a ha⟩
theorem thrK_zero (low : List UInt8) (L : List Pt) (j : Nat) (hn : (xsOf L).Nodup) (h0 : ∀ x ∈ xsOf L, x ≠ 0) : (thrK low L j).getD 0 0 = low.getD j 0 := by
  rw [← ev_zero, thrK, thr_ev]
  have := atP_at (xsOf L ++ [0]) (ysOf L j ++ [low.getD j 0]) (xs0_nodup hn h0) L.length (by simp [xsOf_len])
  have e1 : (xsOf L ++ [0]).getD L.length 0 = 0 := by rw [← xsOf_len L]; simp [List.getD]
  have e2 : (ysOf L j ++ [low.getD j 0]).getD L.length 0 = low.getD j 0 := by
    have : (ysOf L j).length = L.length := by simp [ysOf]
    rw [List.getD, List.getElem?_append_right (by omega), this, Nat.sub_self]; rfl
  rw [e1, e2] at this
  exact this
theorem thrK_at (low : List UInt8) (L : List Pt) (j : Nat) (hn : (xsOf L).Nodup) (h0 : ∀ x ∈ xsOf L, x ≠ 0) (p : Pt) (hp : p ∈ L) : ev (thrK low L j) p.1 = p.2.getD j 0 := by
  obtain ⟨i, hi, rfl⟩ := List.mem_iff_getElem.1 hp
  have hg := List.getElem?_eq_getElem hi
  rw [thrK, thr_ev]
  have := atP_at (xsOf L ++ [0]) (ysOf L j ++ [low.getD j 0]) (xs0_nodup hn h0) i (by simp [xsOf_len]; omega)
  rw [getD_app _ _ _ (by rw [xsOf_len]; exact hi), getD_app _ _ _ (by simp [ysOf]; exact hi), xsOf_get L i _ hg, ysOf_get L i j _ hg] at this
  exact this
theorem expl_thr (L : List Pt) (low : List UInt8) (hn : (xsOf L).Nodup) (h0 : ∀ x ∈ xsOf L, x ≠ 0) (h32 : ∀ p ∈ L, p.2.length = 32) (hlow : low.length = 32) (t : Nat) (ht : t < L.length) (j : Nat) (hj : j < 32) :
    (explN L.length low L).getD (32 * t + j) 0 = (thrK low L j).getD (t + 1) 0 :=
  expl_poly L.length L low (thrK low L) rfl hn h0 h32 hlow (fun j _ => thrK_len low L j) (fun j _ => (thrK_zero low L j hn h0).symm) (fun p hp j _ => (thrK_at low L j hn h0 p hp).symm) t ht j hj

/-! ## Shares of a split, one fewer than give it back -/
theorem rows_ext (a b : List UInt8) (n : Nat) (ha : a.length = 32 * n) (hb : b.length = 32 * n) (h : ∀ t, t < n → ∀ j, j < 32 → a.getD (32 * t + j) 0 = b.getD (32 * t + j) 0) : a = b :=
  list_getD_ext _ _ (by omega) fun i hi => by
    have := h (i / 32) (by omega) (i % 32) (Nat.mod_lt _ (by decide))
    rwa [Nat.div_add_mod] at this
/-- The polynomial of the split. -/
theorem expl_own {m c : List UInt8} {K : Nat} (hK : 1 ≤ K) (hm : m.length = 32) (hc : c.length = 32 * (K - 1)) (L : List Pt) (hn : (xsOf L).Nodup) (h0 : ∀ x ∈ xsOf L, x ≠ 0) (hl : L.length + 1 = K) (hv : ∀ p ∈ L, p.2 = valS m c K p.1) : explN L.length m L = c := by
  have hll : 32 * K ≤ m.length + c.length := by omega
  have h32 : ∀ p ∈ L, p.2.length = 32 := fun p hp => by rw [hv p hp, valS_len _ _ _ _ hll]
  refine rows_ext _ _ L.length (explN_len _ _ _ rfl hm h32) (by omega) fun t ht j hj => ?_
  rw [expl_poly L.length L m (coefs m c K) rfl hn h0 h32 hm (fun j _ => by rw [coefs_len]; omega) (fun j hj => ?_) (fun p hp j hj => by rw [hv p hp, valS_get m c K p.1 j hll hj]) t ht j hj, coefs_get m c K j (t + 1) (by omega) hj]
  · rw [List.getD, List.getD, List.getElem?_append_right (by omega), hm, show 32 * (t + 1) + j - 32 = 32 * t + j by omega]
  · rw [coefs_get m c K j 0 (by omega) hj, Nat.mul_zero, Nat.zero_add, getD_app _ _ _ (by omega)]
/-- Under the coins that explain them, any key has just these shares. -/
theorem expl_any {m2 : List UInt8} (L : List Pt) (hn : (xsOf L).Nodup) (h0 : ∀ x ∈ xsOf L, x ≠ 0) (h32 : ∀ p ∈ L, p.2.length = 32) (hm : m2.length = 32) (p : Pt) (hp : p ∈ L) : valS m2 (explN L.length m2 L) (L.length + 1) p.1 = p.2 := by
  have hel := explN_len L.length m2 L rfl hm h32
  have hll : 32 * (L.length + 1) ≤ m2.length + (explN L.length m2 L).length := by omega
  refine list_getD_ext _ _ (by rw [valS_len _ _ _ _ hll, h32 p hp]) fun j hj => ?_
  rw [valS_len _ _ _ _ hll] at hj
  rw [valS_get _ _ _ _ j hll hj, ← thrK_at m2 L j hn h0 p hp]
  congr 1
  refine list_getD_ext _ _ (by rw [coefs_len, thrK_len]) fun i hi => ?_
  rw [coefs_len] at hi
  rw [coefs_get _ _ _ j i hi hj]
  cases i with
  | zero => rw [Nat.mul_zero, Nat.zero_add, getD_app _ _ _ (by omega), thrK_zero m2 L j hn h0]
  | succ t =>
    rw [List.getD, List.getElem?_append_right (by omega), hm, show 32 * (t + 1) + j - 32 = 32 * t + j by omega]
    exact expl_thr L m2 hn h0 h32 hm t (by omega) j hj
/-- What the law asks of shares picked out of a split. -/
theorem secret_facts {m id c m2 : List UInt8} {N K : Nat} (hK : 1 ≤ K) (hKN : K ≤ N) (hN : N ≤ 16) (hm : m.length = 32) (hid : id.length = 8) (hc : c.length = 32 * (K - 1)) (hm2 : m2.length = 32) {out : List ByteArray} (hp : Pick (splitB m id c N K) out) (ho : out.length = K - 1) :
    ∃ cx : List UInt8, cx.length = 32 * (K - 1) ∧ explV m2 out = (cx, 0) ∧ explV m out = (c, 0) ∧ ∀ s ∈ out, s ∈ splitB m2 id cx N K := by
  have hl : 32 * K ≤ m.length + c.length := by omega
  have hsh : ∀ s ∈ out, Shar m id c K s := fun s hs => splitB_shar hN s (hp.mem s hs)
  have hnd := hp.nodup (splitB_nodup m id c N K hN hid hl)
  have htog := shar_tog hK (by omega) hid hl hsh hnd
  obtain ⟨L, hL⟩ : ∃ L, L = out.map ptO := ⟨_, rfl⟩
  have hLl : L.length = K - 1 := by rw [hL, List.length_map, ho]
  have hv : ∀ p ∈ L, p.2 = valS m c K p.1 := fun p hp => by
    rw [hL] at hp
    obtain ⟨s, hs, rfl⟩ := List.mem_map.1 hp
    exact shar_pt hid hl (hsh s hs)
  have h32 : ∀ p ∈ L, p.2.length = 32 := fun p hp => by rw [hv p hp, valS_len _ _ _ _ hl]
  have h0 : ∀ x ∈ xsOf L, x ≠ 0 := fun x hx => by
    obtain ⟨p, hp, rfl⟩ := List.mem_map.1 hx
    rw [hL] at hp
    obtain ⟨s, hs, rfl⟩ := List.mem_map.1 hp
    obtain ⟨y, h1, h2, rfl⟩ := hsh s hs
    rw [ofV_pt K id y _ hid (valS_len _ _ _ _ hl)]
    intro h
    have : y = 0 := h
    rw [this] at h1
    exact absurd h1 (by decide)
  rw [← hL] at hnd
  have hval : ∀ mm : List UInt8, mm.length = 32 → explV mm out = (explN L.length mm L, 0) := fun mm hmm => by
    by_cases he : out = []
    · rw [expl_none hmm htog he]
      have : L = [] := by rw [hL, he]; rfl
      rw [this]; rfl
    · have h0' : 0 < out.length := Nat.pos_of_ne_zero (fun h => he (List.length_eq_zero_iff.1 h))
      have hk := shar_kin (by omega) hid (hsh _ (List.getElem_mem h0'))
      rw [expl_ok hmm htog _ (List.getElem?_eq_getElem h0') (by rw [hk]; show out.length + 1 = K; omega), hL, List.length_map]
  have hK1 : L.length + 1 = K := by omega
  refine ⟨explN L.length m2 L, by rw [explN_len _ _ _ rfl hm2 h32, hLl], hval m2 hm2, by rw [hval m hm, expl_own hK hm hc L hnd h0 hK1 hv], fun s hs => ?_⟩
  have hsm := hp.mem s hs
  obtain ⟨i, hi, rfl⟩ := List.mem_map.1 hsm
  have hpt : ptO (ofV K id (UInt8.ofNat (i + 1)) (valS m c K (UInt8.ofNat (i + 1)))) = (UInt8.ofNat (i + 1), valS m c K (UInt8.ofNat (i + 1))) := ofV_pt K id _ _ hid (valS_len _ _ _ _ hl)
  have hmem : (UInt8.ofNat (i + 1), valS m c K (UInt8.ofNat (i + 1))) ∈ L := by rw [hL, ← hpt]; exact List.mem_map.2 ⟨_, hs, rfl⟩
  have := expl_any L hnd h0 h32 hm2 _ hmem
  rw [hK1] at this
  refine List.mem_map.2 ⟨i, hi, ?_⟩
  show ofV K id (UInt8.ofNat (i + 1)) (valS m2 (explN L.length m2 L) K (UInt8.ofNat (i + 1))) = ofV K id (UInt8.ofNat (i + 1)) (valS m c K (UInt8.ofNat (i + 1)))
  rw [this]
end Go.Proofs.YtffhfmaphjjffaaDoor
namespace Go.Proofs.YtffhfmaphjjffaaDoor
open Go.RowKit Go.Lib Go.Joins Base Gf
set_option linter.unusedVariables false
set_option linter.unusedSimpArgs false

/-- The coins filled in, byte by byte of the key, row by row. -/
def fillC (X : List UInt8) (n j i : Nat) : List UInt8 := (List.range (32 * n)).map fun q => if q % 32 < j ∨ q % 32 = j ∧ q / 32 < i then X.getD q 0 else 0
theorem fillC_len (X : List UInt8) (n j i : Nat) : (fillC X n j i).length = 32 * n := by simp [fillC]
theorem fillC_zero (X : List UInt8) (n : Nat) : fillC X n 0 0 = zerosB (32 * n) := by
  apply List.ext_getElem?
  intro q
  rw [fillC, List.getElem?_map, zerosB, List.getElem?_replicate]
  by_cases h : q < 32 * n
  · rw [List.getElem?_range h, if_pos h, Option.map_some, if_neg (by omega)]
  · rw [List.getElem?_eq_none (by simp; omega), if_neg h]; rfl
theorem fillC_all (X : List UInt8) (n : Nat) (hX : X.length = 32 * n) : fillC X n 32 0 = X := by
  apply List.ext_getElem?
  intro q
  rw [fillC, List.getElem?_map]
  by_cases h : q < 32 * n
  · rw [List.getElem?_range h, Option.map_some, if_pos (.inl (Nat.mod_lt _ (by decide))), List.getElem?_eq_getElem (by omega), List.getD, List.getElem?_eq_getElem (by omega)]; rfl
  · rw [List.getElem?_eq_none (by simp; omega), List.getElem?_eq_none (by omega)]; rfl
theorem fillC_col (X : List UInt8) (n j : Nat) (hj : j < 32) : fillC X n j n = fillC X n (j + 1) 0 := by
  unfold fillC
  apply List.map_congr_left
  intro q hq
  have hq := List.mem_range.1 hq
  have e : (q % 32 < j ∨ q % 32 = j ∧ q / 32 < n) ↔ (q % 32 < j + 1 ∨ q % 32 = j + 1 ∧ q / 32 < 0) := by omega
  simp only [e]
theorem fillC_set (X : List UInt8) (n j i : Nat) (hj : j < 32) (hi : i < n) : (fillC X n j i).set (32 * i + j) (X.getD (32 * i + j) 0) = fillC X n j (i + 1) := by
  apply List.ext_getElem?
  intro q
  by_cases hq : 32 * i + j = q
  · subst hq
    rw [List.getElem?_set_self (by rw [fillC_len]; omega), fillC, List.getElem?_map, List.getElem?_range (by omega), Option.map_some, if_pos (.inr ⟨by omega, by omega⟩)]
  · rw [List.getElem?_set_ne hq, fillC, fillC, List.getElem?_map, List.getElem?_map]
    by_cases h : q < 32 * n
    · rw [List.getElem?_range h, Option.map_some, Option.map_some]
      have e : (q % 32 < j ∨ q % 32 = j ∧ q / 32 < i) ↔ (q % 32 < j ∨ q % 32 = j ∧ q / 32 < i + 1) := by omega
      simp only [e]
    · rw [List.getElem?_eq_none (by simp; omega)]; rfl
theorem byteCells_get2 (l : List UInt8) (i : Nat) (h : i < l.length) : (byteCells l)[i]? = some (.int .u8 (bt (l.getD i 0))) := by
  simp [byteCells, h, List.getD, bt]
theorem bset (c : List UInt8) (R : List Value) (k : Nat) (x : UInt8) (h : k < c.length) : (byteCells c ++ R).set k (.int .u8 (bt x)) = byteCells (c.set k x) ++ R := by
  rw [List.set_append_left _ _ (by rw [byteCells_length]; exact h), byteCells_set]
set_option maxRecDepth 100000 in
set_option maxHeartbeats 8000000 in
theorem rexplain_any (master : ByteArray) (ps : List ByteArray) (ad : Option Addr) (cap : Nat) (hn : ps.length ≤ 4194304) (w : World) (hP : Powers w) (hQ : RefRoots w) (hT : Texts w ad ps) :
    Calls Tryd.prog 26 #[.string master, .slice ad ps.length cap] w fun e w' => e = .returned (.tuple #[.string ⟨(explV master.data.toList ps).1.toArray⟩, .int .i64 (explV master.data.toList ps).2]) ∧ Fr [] w w' := by
  have hiP5 : (Tryd.prog.info? 84).map (fun i => (i.zero, i.size, i.bytes)) = some (some (.agg #[.int .i64 0, .int .i64 0]), 2, 16) := by kernel_rfl
  obtain ⟨iP, hiP, zP0, zP1, zP2⟩ := info_parts hiP5
  have cT := rtog_any ps ad cap hn w hP hQ hT
  have hml : master.data.toList.length = master.size := by simp
  by_cases hm : master.size = 32
  · have b0 : ((master.size : Int) != 32) = false := by simp [hm]
    have hm32 : master.data.toList.length = 32 := by rw [hml]; exact hm
    by_cases hE : togE ps = 0
    · rw [hE] at cT
      by_cases h0 : ps = []
      · have hl : ps.length = 0 := by rw [h0]; rfl
        rw [expl_none hm32 hE h0]
        rw [hl] at cT ⊢
        clear hE h0 hl hm hml hm32
        go_enter Tryd.func26, Tryd.ntmps26
        go_wp2_with (first
          | (go_at_call 37; refine cT.mono ?_; clear cT; rintro e w1 ⟨rfl, f1⟩)
          | fail)
        go_ret2
        exact ⟨rfl, f1⟩
      · have hl0 : 0 < ps.length := Nat.pos_of_ne_zero (fun h => h0 (List.length_eq_zero_iff.1 h))
        have b1 : ((ps.length : Int) == 0) = false := by simp; omega
        obtain ⟨z1, z2, z3⟩ := togE_zero hE
        have h51 : ∀ s ∈ ps, s.size = 51 := fun s hs => by simpa using (isE_parts _ (z1 s hs)).1
        have h32 : ∀ s ∈ ps, (ptO s).2.length = 32 := fun s hs => valD_len _ (z1 s hs)
        obtain ⟨s, hs⟩ : ∃ s, ps[0]? = some s := ⟨_, List.getElem?_eq_getElem hl0⟩
        have hss := h51 s (List.mem_of_getElem? hs)
        have hkr : 1 ≤ (kinO s).1 ∧ (kinO s).1 ≤ 16 := by
          have := isE_parts _ (z1 s (List.mem_of_getElem? hs))
          exact ⟨this.2.2.2.2.2.1, this.2.2.2.2.2.2⟩
        obtain ⟨k, hk⟩ : ∃ k, k = (kinO s).1 := ⟨_, rfl⟩
        rw [← hk] at hkr
        have i2 : 2 < s.size := by omega
        obtain ⟨kb, hkb⟩ : ∃ kb, kb = s.data.toList.getD 2 0 := ⟨_, rfl⟩
        have g2 : s[2] = kb := by rw [hkb]; exact sget rfl i2
        have hkn : (kb.toNat : Int) = k := by rw [hk, hkb]; rfl
        obtain ⟨g, o, rfl, hc⟩ := hT 0 s hs
        have hcs : ∀ w' : World, Fr [] w w' → w'.cell? ⟨g, o, none⟩ = some (.string s) := fun w' f => by
          obtain ⟨g', o', e', h⟩ := (hT.keep f) 0 s hs
          cases e'; exact h
        have l2 : (0 : Int) < ps.length := by omega
        have wk : IntKind.i64.wrap ((k : Int) - 1) = (k : Int) - 1 := IntWalk.i64_in _ (by omega)
        by_cases hlk : ps.length + 1 ≠ k
        · have l1 : ((ps.length : Int) != (k : Int) - 1) = true := by simp; omega
          rw [expl_few hm32 hE s hs (by rw [← hk]; exact hlk)]
          clear hE h0 hm hml hm32 z1 z2 z3 h32 hs hk hkb hlk h51
          go_enter Tryd.func26, Tryd.ntmps26
          go_upto_region 8 with (first
            | (go_at_call 37; refine cT.mono ?_; clear cT; rintro e w1 ⟨rfl, f1⟩; have hc1 := hcs _ f1)
            | fail)
          go_wp2_with fail
          go_ret2
          exact ⟨rfl, f1⟩
        · have hlk : ps.length + 1 = k := by omega
          rw [expl_ok hm32 hE s hs (by rw [← hk]; exact hlk)]
          obtain ⟨n, hnd⟩ : ∃ n, n = ps.length := ⟨_, rfl⟩
          have l1 : ((n : Int) != (k : Int) - 1) = false := by
            have : (n : Int) = (k : Int) - 1 := by omega
            rw [this]; simp
          obtain ⟨L, hL⟩ : ∃ L, L = ps.map ptO := ⟨_, rfl⟩
          have hLl : L.length = n := by rw [hL, hnd]; simp
          have hL32 : ∀ p ∈ L, p.2.length = 32 := fun p hp => by
            rw [hL] at hp
            obtain ⟨t, ht, rfl⟩ := List.mem_map.1 hp
            exact h32 t ht
          have hL0 : ∀ x ∈ xsOf L, x ≠ 0 := fun x hx => by
            obtain ⟨p, hp, rfl⟩ := List.mem_map.1 hx
            rw [hL] at hp
            obtain ⟨t, ht, rfl⟩ := List.mem_map.1 hp
            intro h
            have h1 := (isE_parts _ (z1 t ht)).2.2.2.1
            have h' : t.data.toList.getD 1 0 = 0 := h
            rw [h'] at h1
            exact absurd h1 (by decide)
          rw [← hL] at z3
          obtain ⟨ml, hmld⟩ : ∃ ml, ml = master.data.toList := ⟨_, rfl⟩
          rw [← hmld] at hm32
          obtain ⟨X, hXd⟩ : ∃ X, X = explN ps.length master.data.toList (ps.map ptO) := ⟨_, rfl⟩
          have hXe : X = explN L.length ml L := by rw [hXd, ← hL, ← hmld, hLl, hnd]
          have hXl : X.length = 32 * n := by rw [hXe, explN_len _ _ _ rfl hm32 hL32, hLl]
          have hXg : ∀ t, t < n → ∀ j, j < 32 → X.getD (32 * t + j) 0 = (thrK ml L j).getD (t + 1) 0 := fun t ht j hj => by
            rw [hXe]; exact expl_thr L ml z3 hL0 hL32 hm32 t (by omega) j hj
          have hpt : ∀ j, j < 32 → thr ((pairsOf ps j ++ [((0 : UInt8), ml.getD j 0)] : List (UInt8 × UInt8)).map (·.1)) ((pairsOf ps j ++ [((0 : UInt8), ml.getD j 0)] : List (UInt8 × UInt8)).map (·.2)) = thrK ml L j := fun j hj => by
            have e1 := pairs_fst ps ps.length j
            have e2 := pairs_snd ps ps.length j hj
            rw [List.take_length, List.take_of_length_le (by simp)] at e1 e2
            rw [List.map_append, List.map_append, e1, e2, ← hL]; rfl
          have hmg : ∀ j, j < 32 → ∃ hj : j < master.size, master[j] = ml.getD j 0 := fun j hj => ⟨by omega, by rw [hmld]; exact sget rfl (by omega)⟩
          rw [← hXd]
          have hmk := run_mk (P := Tryd.prog) Tryd.underlying55 (by kernel_rfl : (Tryd.prog.info? 5).map (fun i => (i.zero, i.size, i.bytes)) = some (some (.int .u8 0), 1, 1)) (32 * n) (by omega)
          have wk2 : IntKind.i64.wrap (((k : Int) - 1) * 32) = ((32 * n : Nat) : Int) := by rw [IntWalk.i64_in _ (by omega)]; omega
          have hpl : ∀ j, (pairsOf ps j).length = n := fun j => by rw [pairsOf, List.length_map, hnd]
          have cP := fun j hj w' h => rpoints_any ps (some ⟨g, o, none⟩) cap ps.length j (Nat.le_refl _) (by omega) hj h51 w' h
          rw [← hnd] at hl0 b1 l2 cT cP ⊢
          have HT := Lib.hid (And.intro hXl (And.intro hXg (And.intro hpt (And.intro hmg (And.intro hpl hnd)))))
          have hln1 : n + 1 ≤ k := by omega
          have hln2 : k ≤ n + 1 := by omega
          clear hE h0 hml hm32 z1 z2 z3 h32 hs hk hkb hlk h51 hL hLl hL32 hL0 hmld hXd hXe hXl hXg hpt hmg hpl hm
          obtain ⟨M, hM⟩ : ∃ M, M = 32 * n := ⟨_, rfl⟩
          rw [← hM] at hmk wk2
          have HM := Lib.hid hM
          clear hM hnd
          go_enter Tryd.func26, Tryd.ntmps26
          go_upto_region 8 with (first
            | (go_at_call 37; refine cT.mono ?_; clear cT; rintro e w1 ⟨rfl, f1⟩; have hc1 := hcs _ f1)
            | fail)
          go_upto_region 11 with fail
          clear hc1 g2 hkn i2 hss l1 l2 b1 hcs hc
          have hA := At.alloc_new w1 5 (byteCells (zerosB M)).toArray
          rw [List.toList_toArray] at hA
          have hF := f1.trans (Fr.alloc [] w1 (.cells (byteCells (zerosB M)).toArray 5))
          have hsz1 := f1.size
          go_upto_region 12 with fail
          clear hmk wk2
          obtain ⟨gb, hgb⟩ : ∃ gb, gb = w1.heap.size := ⟨_, rfl⟩
          rw [← hgb] at hA ⊢
          have hgw : w.heap.size ≤ gb := by omega
          generalize w1.alloc (.cells (byteCells (zerosB M)).toArray 5) = W1 at hA hF ⊢
          have hA : At W1 gb 5 (byteCells (fillC X n 0 0)) := by rw [fillC_zero, ← HM.out]; exact hA
          clear hgb hsz1 f1
          go_wp2_with fail
          go_loopw [9, 10, 11, 12] (fun v9 _ _ _ wr => ∃ j : Nat, j ≤ 32 ∧ v9 = .int .i64 j ∧ At wr gb 5 (byteCells (fillC X n j 0)) ∧ Fr [] w wr) (fun v _ _ _ _ => 32 - (intOf v).toNat)
          case atStart => exact ⟨0, by omega, rfl, hA, hF⟩
          case round =>
            clear hA hF
            obtain ⟨j, hj, rfl, hA, hF⟩ := hrel
            by_cases hl : j < 32
            · have l3 : (j : Int) < 32 := by omega
              obtain ⟨hXl, hXg, hpt, hmg, hpl, hnd⟩ := HT.out
              obtain ⟨hjm, hmj⟩ := hmg j hl
              have hpt := hpt j hl
              have hpl := hpl j
              have m1 := fun w' f => cP j hl w' (hT.keep f)
              rw [List.take_of_length_le (show ps.length ≤ n by omega)] at m1
              obtain ⟨mb, hmb⟩ : ∃ mb, mb = ml.getD j 0 := ⟨_, rfl⟩
              rw [← hmb] at hmj hpt
              obtain ⟨PP, hPP⟩ : ∃ PP, PP = pairsOf ps j := ⟨_, rfl⟩
              rw [← hPP] at m1 hpt hpl
              have hpl2 : (PP ++ [((0 : UInt8), mb)]).length = n + 1 := by simp [hpl]
              have m2 := fun (gp cp : Nat) w' h => rthrough_any (PP ++ [((0 : UInt8), mb)]) gp cp (by omega) (by omega) w' h
              rw [hpt, hpl2] at m2
              obtain ⟨c, hcd⟩ : ∃ c, c = thrK ml L j := ⟨_, rfl⟩
              rw [← hcd] at m2
              have hcl : c.length = n + 1 := by rw [← hpl2, hcd, ← hpt, thr_len]; simp
              have hcg : ∀ t, t < n → c.getD (t + 1) 0 = X.getD (32 * t + j) 0 := fun t ht => by rw [hcd]; exact (hXg t ht j hl).symm
              have HC := Lib.hid (And.intro hcl (And.intro hcg (And.intro hpl hXl)))
              have l4 : (j : Int) < master.size := by omega
              have hgbl := hA.lt
              clear hXg hpt hmg hnd hmb hPP hcd hcl hcg hpl hXl hpl2
              go_upto_region 16 with (first
                | (go_at_call 39; refine (m1 _ hF).mono ?_; clear m1; rintro e w2 ⟨v2, rfl, o2, f2⟩; have hA := f2.keep hA (by simp); have hF := hF.trans f2)
                | fail)
              have hsz2 := f2.size
              have A6 := At.alloc_new w2 84 #[Value.int .i64 0, .int .i64 (mb.toNat : Int)]
              have hszr : wr.heap.size ≤ w2.heap.size := f2.size
              go_upto_region 17 with (first
                | (at_builtin; refine wpList_append_own _ rfl _ _ _ rfl wr.heap.size 84 iP _ 2 16 Tryd.underlying79 hiP zP0 zP1 zP2 rfl (by decide) _ n _ rfl (World.ownsRow.alloc o2 _) ⟨w2.heap.size, 0, none⟩ 1 1 [.int .i64 0, .int .i64 (mb.toNat : Int)] rfl rfl (by intro j u hj; rw [addr_add', Nat.zero_add]; exact (A6.cell j).trans hj) (by intro u hu; simp at hu; rcases hu with rfl | rfl <;> rfl) (by simp [maxLen]; omega) (by omega) (by simp; omega) ?_; intro v3 w3 o3 gr3 _)
                | fail)
              have o3 : w3.ownsRow wr.heap.size 84 2 v3 (n + 1) (qsC (PP ++ [((0 : UInt8), mb)])) := by rw [qsC_app]; exact o3
              have f3 : Fr v2.ownBlock.toList w2 w3 := (Fr.alloc _ w2 _).trans (Fr.ofGrown gr3 (by intro k hk; have hk : v2.ownBlock = some k := hk; rw [hk]; simp))
              have hv2 : ∀ x ∈ v2.ownBlock.toList, wr.heap.size ≤ x := fun x hx => (o2.lt x (by simpa using hx)).1
              have hA := f3.keep hA (fun hx => by have := hv2 gb hx; omega)
              have hwr := hF.size
              have hF := hF.new f3 (fun x hx => by have := hv2 x hx; have := f2.size; omega)
              have hgb3 := hA.lt
              obtain ⟨gp, cp, rfl⟩ := ownsRow_form o3 (by omega)
              clear f2 f3 hv2 o2 gr3 A6 hsz2 hszr
              go_upto_region 18 with (first
                | (go_at_call 38; refine (m2 gp cp _ (fun w' f => q_cells o3 w' f)).mono ?_; clear m2; rintro e w4 ⟨gs, cs, R2, rfl, hgs, A4, f4⟩; have hA := f4.keep hA (by simp); have hF := hF.trans f4)
                | fail)
              have hcw := CW.ofAt A4
              have hne : gs ≠ gb := by omega
              clear o3 f4 A4 hgs
              go_wp2_with fail
              have rel0 : ∃ i : Nat, Value.int .i64 1 = .int .i64 i ∧ 1 ≤ i ∧ i ≤ k ∧ At w4 gb 5 (byteCells (fillC X n j (i - 1))) ∧ CW w4 gs c ∧ Fr [] w w4 := ⟨1, rfl, by omega, by omega, hA, hcw, hF⟩
              clear hA hcw hF
              go_loopw [12] (fun v wr => ∃ i : Nat, v = .int .i64 i ∧ 1 ≤ i ∧ i ≤ k ∧ At wr gb 5 (byteCells (fillC X n j (i - 1))) ∧ CW wr gs c ∧ Fr [] w wr) (fun v _ => k - (intOf v).toNat)
              case atStart => exact rel0
              case round =>
                clear rel0
                obtain ⟨i, rfl, hi1, hik, hA, hcw, hF⟩ := hrel
                by_cases hl2 : i < k
                · have l5 : (i : Int) < k := by omega
                  obtain ⟨t, rfl⟩ : ∃ t, i = t + 1 := ⟨i - 1, by omega⟩
                  rw [Nat.add_sub_cancel] at hA
                  obtain ⟨hcl, hcg, hpl, hXl⟩ := HC.out
                  obtain ⟨z, hz⟩ : ∃ z, z = c.getD (t + 1) 0 := ⟨_, rfl⟩
                  have hcz := hcw.get (t + 1) (by omega)
                  rw [← hz] at hcz
                  have hzX : X.getD (32 * t + j) 0 = z := by rw [hz, hcg t (by omega)]
                  obtain ⟨q, hq⟩ : ∃ q, q = 32 * t + j := ⟨_, rfl⟩
                  have hset := fillC_set X n j t hl (by omega)
                  rw [hzX, ← hq] at hset
                  have hql : q < (fillC X n j t).length := by rw [fillC_len, hq]; omega
                  have hA' : At wr gb 5 (byteCells (fillC X n j t) ++ []) := by rw [List.append_nil]; exact hA
                  have hst := bset (fillC X n j t) [] q z hql
                  rw [hset, List.append_nil, List.append_nil] at hst
                  have hcq : wr.cell? ⟨gb, q, none⟩ = some (.int .u8 (bt ((fillC X n j t).getD q 0))) := by
                    rw [hA.cell, byteCells_get2 _ _ hql]
                  obtain ⟨old, hold⟩ : ∃ old, old = bt ((fillC X n j t).getD q 0) := ⟨_, rfl⟩
                  rw [← hold] at hcq
                  have fz := hA.frozen q
                  have A1 := hA.setCell q (.int .u8 (bt z))
                  rw [hst] at A1
                  have f1 := Fr.setCell [gb] wr ⟨gb, q, none⟩ (.int .u8 (bt z)) (.inl (by simp))
                  have hcw1 := hcw.keep f1 (by simp; exact hne)
                  have hF1 := hF.new f1 (by simp; exact hgw)
                  obtain ⟨t1, ht1⟩ : ∃ t1, t1 = t + 1 := ⟨_, rfl⟩
                  rw [← ht1] at hcz l5 hl2 ⊢
                  have w1' : IntKind.i64.wrap ((t1 : Int) - 1) = (t : Int) := by rw [IntWalk.i64_in _ (by omega)]; omega
                  have w2' : IntKind.i64.wrap ((t : Int) * 32) = (t : Int) * 32 := IntWalk.i64_in _ (by omega)
                  have w3' : IntKind.i64.wrap ((t : Int) * 32 + (j : Int)) = (q : Int) := by rw [IntWalk.i64_in _ (by omega)]; omega
                  have lq : (q : Int) < M := by have := HM.out; omega
                  have lt1 : (t1 : Int) < n + 1 := by omega
                  have lt2 : (t1 : Int) < ((n + 1 : Nat) : Int) := by omega
                  have wz := u8_btb z
                  have HT1 := Lib.hid (And.intro ht1 hq)
                  clear hset hst hzX hz hold hA hA' hcl hcg hpl hXl ht1 hq hql hcw hF
                  go_wp2_with fail
                  refine ⟨⟨t1 + 1, by simp, by omega, by omega, ?_, hcw1, hF1⟩, by simp only [intOf]; omega⟩
                  rw [show t1 + 1 - 1 = t + 1 by have := HT1.out.1; omega]
                  exact A1
                · obtain rfl : i = k := by omega
                  rw [show i - 1 = n by omega, fillC_col X n j hl] at hA
                  clear hcw
                  go_wp2_with fail
                  exact ⟨⟨j + 1, by omega, by simp, hA, hF⟩, by simp only [intOf]; omega⟩
            · obtain rfl : j = 32 := by omega
              rw [fillC_all X n HT.out.1] at hA
              have hcv := run_strB (P := Tryd.prog) (d := 9) Tryd.underlying55 Tryd.underlying5 Tryd.underlying9 wr gb 0 M 5 X [] [] (by simpa using hA) rfl M (by rw [HT.out.1, HM.out])
              go_wp2_with fail
              go_ret2
              exact ⟨rfl, hF⟩
    · have b1 : (togE ps != 0) = true := by simpa using hE
      rw [expl_bad hm32 hE]
      generalize togE ps = E at cT b1
      clear hE hm hm32 hml
      go_enter Tryd.func26, Tryd.ntmps26
      go_wp2_with (first
        | (go_at_call 37; refine cT.mono ?_; clear cT; rintro e w1 ⟨rfl, f1⟩)
        | fail)
      go_ret2
      exact ⟨rfl, f1⟩
  · have b0 : ((master.size : Int) != 32) = true := by simp; omega
    rw [expl_key (by rw [hml]; exact hm)]
    clear cT hml hm
    go_enter Tryd.func26, Tryd.ntmps26
    go_wp2_with fail
    go_ret2
    exact ⟨rfl, Fr.refl _ _⟩
end Go.Proofs.YtffhfmaphjjffaaDoor
namespace Go.Proofs.YtffhfmaphjjffaaDoor
open Go.RowKit Go.Lib Go.Joins Base
set_option linter.unusedVariables false
set_option linter.unusedSimpArgs false

/-- The first i of the texts turned. -/
def turnT (ps : List ByteArray) (i : Nat) : List ByteArray := ps.mapIdx fun j s => if j < i ∧ j % 2 = 0 then s ++ ⟨#[120]⟩ else s
theorem turnT_len (ps : List ByteArray) (i : Nat) : (turnT ps i).length = ps.length := by simp [turnT]
theorem turnT_zero (ps : List ByteArray) : turnT ps 0 = ps := by
  apply List.ext_getElem?
  intro j
  simp [turnT, List.getElem?_mapIdx]
theorem turnT_cur (ps : List ByteArray) (i : Nat) : (turnT ps i)[i]? = ps[i]? := by
  simp [turnT, List.getElem?_mapIdx]
theorem turnT_next (ps : List ByteArray) (i : Nat) (s : ByteArray) (h : ps[i]? = some s) (he : i % 2 = 0) : (turnT ps i).set i (s ++ ⟨#[120]⟩) = turnT ps (i + 2) := by
  have hl := (List.getElem?_eq_some_iff.1 h).1
  apply List.ext_getElem?
  intro j
  by_cases hj : i = j
  · subst hj
    rw [List.getElem?_set_self (by rw [turnT_len]; exact hl), turnT, List.getElem?_mapIdx, h]
    simp [he]
  · rw [List.getElem?_set_ne hj, turnT, turnT, List.getElem?_mapIdx, List.getElem?_mapIdx]
    cases ps[j]? with
    | none => rfl
    | some t =>
      simp only [Option.map_some, Option.some.injEq]
      by_cases h1 : j < i
      · by_cases h2 : j % 2 = 0
        · rw [if_pos ⟨h1, h2⟩, if_pos ⟨by omega, h2⟩]
        · rw [if_neg (fun h => h2 h.2), if_neg (fun h => h2 h.2)]
      · by_cases h2 : j % 2 = 0
        · rw [if_neg (fun h => h1 h.1), if_neg (fun h => by omega)]
        · rw [if_neg (fun h => h2 h.2), if_neg (fun h => h2 h.2)]
theorem tset (ps : List ByteArray) (R : List Value) (a : Nat) (t : ByteArray) (h : a < ps.length) : (tcells ps ++ R).set a (.string t) = tcells (ps.set a t) ++ R := by
  rw [List.set_append_left _ _ (by rw [tcells_len]; exact h), tcells, tcells, List.map_set]
theorem Texts.ofAtT {w : World} {g : Nat} {ps : List ByteArray} {R : List Value} (h : At w g 9 (tcells ps ++ R)) : Texts w (some ⟨g, 0, none⟩) ps := by
  intro j s hj
  refine ⟨g, 0, rfl, ?_⟩
  rw [Nat.zero_add, h.cell, List.getElem?_append_left (by rw [tcells_len]; exact (List.getElem?_eq_some_iff.1 hj).1)]
  simp [tcells, hj]
theorem own_atT {w : World} {b g n c : Nat} {e : TypeId} {xs : List Value} (h : w.ownsRow b e 1 (.slice (some ⟨g, 0, none⟩) n c) n xs) : ∃ R, At w g e (xs ++ R) := by
  obtain ⟨_, ⟨h', _⟩ | ⟨g', cap', cur, hv, hb', hg, _, _, _, ht⟩⟩ := h
  · simp at h'
  · simp only [Value.slice.injEq, Option.some.injEq, Addr.mk.injEq, and_true] at hv
    obtain ⟨rfl, _⟩ := hv
    refine ⟨cur.toList.drop (n * 1), ?_⟩
    rw [← ht, List.take_append_drop]
    unfold At; rw [hg]
theorem Texts.left {w : World} {ad : Option Addr} {ps qs : List ByteArray} (h : Texts w ad (ps ++ qs)) : Texts w ad ps := fun j s hj => h j s (by rw [List.getElem?_append_left (List.getElem?_eq_some_iff.1 hj).1]; exact hj)
theorem texts_own2 (ps : List ByteArray) {b n : Nat} {e : TypeId} {v : Value} (hn : ps.length ≤ 2097152) (w : World) (h : w.ownsRow b e 1 v n (tcells ps)) :
    Calls Tryd.prog 21 #[v] w fun e w' => ∃ v', e = .returned v' ∧ w'.ownsRow w.heap.size 9 1 v' ps.length (tcells ps) ∧ Fr [] w w' := by
  obtain ⟨ad, c, rfl, rfl⟩ := own_val h
  exact texts26_any ps ad c hn w (Texts.ofOwn h)
set_option maxRecDepth 100000 in
set_option maxHeartbeats 4000000 in
theorem lturn_any (ps : List ByteArray) (n g c : Nat) (hn : n = ps.length) (hn2 : n ≤ 4194304) (hs : ∀ s ∈ ps, s.size ≤ 1048576) (R : List Value) (w : World) (hA : At w g 9 (tcells ps ++ R)) :
    Calls Tryd.prog 24 #[.slice (some ⟨g, 0, none⟩) n c] w fun e w' => e = .returned (.tuple #[]) ∧ At w' g 9 (tcells (turnT ps n) ++ R) ∧ Fr [g] w w' := by
  have HS := Lib.hid (And.intro hn hs)
  have A0 : At w g 9 (tcells (turnT ps 0) ++ R) := by rw [turnT_zero]; exact hA
  clear hn hs hA
  go_enter Tryd.func24, Tryd.ntmps24
  go_wp2_with fail
  go_loopw [2] (fun v wr => ∃ i : Nat, v = .int .i64 i ∧ i ≤ n + 1 ∧ i % 2 = 0 ∧ At wr g 9 (tcells (turnT ps i) ++ R) ∧ Fr [g] w wr) (fun v _ => n + 1 - (intOf v).toNat)
  case atStart => exact ⟨0, rfl, by omega, rfl, A0, Fr.refl _ _⟩
  case round =>
    clear A0
    obtain ⟨i, rfl, hi, he, A0, hF⟩ := hrel
    by_cases hl : i < n
    · have l1 : (i : Int) < n := by omega
      obtain ⟨s, hsi⟩ : ∃ s, ps[i]? = some s := ⟨_, List.getElem?_eq_getElem (by have := HS.out.1; omega)⟩
      have hss := HS.out.2 s (List.mem_of_getElem? hsi)
      have hc : wr.cell? ⟨g, i, none⟩ = some (.string s) := by
        rw [A0.cell, List.getElem?_append_left (by rw [tcells_len, turnT_len]; have := HS.out.1; omega)]
        simp [tcells, turnT_cur, hsi]
      have fz := A0.frozen i
      have hnx := turnT_next ps i s hsi he
      have k1 : ¬ 9223372036854775807 < s.size + (⟨#[120]⟩ : ByteArray).size := by have : (⟨#[120]⟩ : ByteArray).size = 1 := rfl; omega
      have k2 : ¬ 9223372036854775807 < s.size + 1 := by omega
      have A1 := A0.setCell i (.string (s ++ ⟨#[120]⟩))
      rw [tset _ _ _ _ (by rw [turnT_len]; have := HS.out.1; omega), hnx] at A1
      have hF1 := hF.trans (Fr.setCell [g] wr ⟨g, i, none⟩ (.string (s ++ ⟨#[120]⟩)) (.inl (by simp)))
      have HE := Lib.hid he
      clear hnx hsi he A0 hF
      go_wp2_with fail
      exact ⟨⟨i + 2, by simp, by omega, by have := HE.out; omega, A1, hF1⟩, by simp only [intOf]; omega⟩
    · have hT : turnT ps i = turnT ps n := by
        apply List.ext_getElem?
        intro j
        rw [turnT, turnT, List.getElem?_mapIdx, List.getElem?_mapIdx]
        by_cases hj : j < ps.length
        · have hn := HS.out.1
          have e1 : (j < i ∧ j % 2 = 0) ↔ (j < n ∧ j % 2 = 0) := ⟨fun h => ⟨by omega, h.2⟩, fun h => ⟨by omega, h.2⟩⟩
          simp only [e1]
        · rw [List.getElem?_eq_none (by omega)]; rfl
      rw [hT] at A0
      have l1 : ¬ (i : Int) < n := by omega
      clear hT he
      go_wp2_with fail
      go_end0
      exact ⟨rfl, A0, hF⟩
set_option maxRecDepth 100000 in
set_option maxHeartbeats 1000000 in
theorem sameTextsD_any (ps : List ByteArray) (ad1 ad2 : Option Addr) (c1 c2 : Nat) (hn : ps.length < 4611686018427387904) (w : World) (h1 : Texts w ad1 ps) (h2 : Texts w ad2 ps) :
    Calls Tryd.prog 14 #[.slice ad1 ps.length c1, .slice ad2 ps.length c2] w fun e w' => e = .returned (.bool true) ∧ Fr [] w w' := by
  go_enter Tryd.func14, Tryd.ntmps14
  go_wp2_with fail
  go_loopw [5] (fun v wr => ∃ i : Nat, i ≤ ps.length ∧ v = .int .i64 i ∧ Texts wr ad1 ps ∧ Texts wr ad2 ps ∧ Fr [] w wr) (fun v _ => ps.length - (intOf v).toNat)
  case atStart => exact ⟨0, by omega, rfl, h1, h2, Fr.refl _ _⟩
  case round =>
    clear h1 h2
    obtain ⟨i, hi, rfl, h1, h2, hF⟩ := hrel
    by_cases hl : i < ps.length
    · have l1 : (i : Int) < ps.length := by omega
      obtain ⟨g, o, rfl, hc⟩ := h1 i ps[i] (by simp [hl])
      obtain ⟨g', o', rfl, hd⟩ := h2 i ps[i] (by simp [hl])
      generalize ps[i] = d at hc hd
      go_wp2_with fail
      go_region
      go_wp2_with fail
      refine ⟨⟨i + 1, by omega, by simp, h1.keep (Fr.drew _ _), h2.keep (Fr.drew _ _), hF.trans (Fr.drew _ _)⟩, by simp only [intOf]; omega⟩
    · obtain rfl : i = ps.length := by omega
      go_wp2_with fail
      go_ret
      exact ⟨rfl, hF⟩
end Go.Proofs.YtffhfmaphjjffaaDoor
namespace Go.Proofs.YtffhfmaphjjffaaDoor
open Go.RowKit Go.Lib Go.Joins Base Go.ChangeShapes Go.WideShapes Go.Deep
set_option linter.unusedVariables false
set_option linter.unusedSimpArgs false

/-- The texts' bytes, the texts themselves counted as well. -/
def bulkL (ps : List ByteArray) : Nat := (ps.map fun p => p.size + 1).sum
/-- v is a slice of these texts. -/
def IsT (w : World) (v : Value) (ps : List ByteArray) : Prop := ∃ ad cap, v = .slice ad ps.length cap ∧ ps.length ≤ cap ∧ Texts w ad ps ∧ ps.length * 16 ≤ 140737488351232
set_option maxRecDepth 100000 in
theorem texts_open {H : Type} {enc : TypeId × Value → H} {W : World} {base : Nat} {v : Value} {d : DataW H} {p : List MemPlace} {ts : List TypeId} {ds : List (DataW H)} {j : Nat}
    (hv : Value.okWide Tryd.prog W .any base 22 v) (h : DataW.Trod enc Tryd.prog W 0 (fun _ => true) true 22 v d p) (hsz : (DataW.weightsEach Tryd.prog ts ds).all (· ≤ reachBytes) = true) (hts : ts[j]? = some 22) (hds : ds[j]? = some d) :
    ∃ ps, IsT W v ps ∧ (Rows.uptoSmall H [d] = true → bulkL ps ≤ 1048576) := by
  obtain ⟨a0, len0, cap0, rfl⟩ := okWide_slice Tryd.underlying22 hv
  obtain ⟨fuel, hf⟩ := h
  rcases open_strs Tryd.underlying22 Tryd.underlying9 (by kernel_rfl) hf with ⟨hcs, hx⟩ | ⟨a, len, cap, m, Sx, hcs, hb, hl, hm, hmm, hx, hel⟩
  · simp [Value.cells] at hcs
    obtain ⟨rfl, rfl, rfl⟩ := hcs
    exact ⟨[], ⟨none, 0, rfl, Nat.le_refl _, fun j s hj => by simp at hj, by simp⟩, fun _ => by simp [bulkL]⟩
  · simp [Value.cells] at hcs
    obtain ⟨rfl, rfl, rfl⟩ := hcs
    simp only [Prod.mk.injEq] at hx
    have hcap := sized_slice hsz hts (by rw [hds, hx.1]) Tryd.underlying22
    simp only [List.length_map, List.length_range] at hcap
    have hmc : m = cap0 := by simpa using hmm
    subst hmc
    refine ⟨(List.range len0).map Sx, ⟨some a, m, by simp, by simpa using hl, ?_, ?_⟩, ?_⟩
    · intro j s hj
      obtain ⟨hi, hs⟩ : j < len0 ∧ s = Sx j := by
        rw [List.getElem?_map] at hj
        rcases Nat.lt_or_ge j len0 with h' | h'
        · rw [List.getElem?_range h'] at hj
          injection hj with hj
          exact ⟨h', hj.symm⟩
        · rw [List.getElem?_eq_none (by simpa using h')] at hj; cases hj
      have hc := (hel j (by omega)).1
      cases a with
      | mk b o sp =>
        have hsp : sp = none := by
          cases sp with
          | none => rfl
          | some x =>
            have hc0 := (hel 0 (by omega)).1
            simp [Addr.add, World.cell?] at hc0
            split at hc0 <;> simp at hc0
        subst hsp
        refine ⟨b, o, rfl, ?_⟩
        have e : (⟨b, o, none⟩ : Addr).add j = ⟨b, o + j, none⟩ := addr_add' b o j
        rw [e] at hc
        rw [hc, hs]
    · have h1 : reachBytes = 140737488351232 := by decide
      have h2 : Tryd.prog.bytesOf 9 = 16 := by kernel_rfl
      rw [h1, h2] at hcap
      simp; omega
    · intro hk
      have h := of_decide_eq_true hk
      rw [hx.1] at h
      have key : ∀ (l : List Nat), bulkL (l.map Sx) = Rows.uptoBulkAll (H := H) (l.map fun i => .lit (.string (Sx i).data.toList)) := by
        intro l
        induction l with
        | nil => rfl
        | cons i r ih =>
          have e : bulkL ((i :: r).map Sx) = ((Sx i).size + 1) + bulkL (r.map Sx) := by simp [bulkL]
          rw [e, ih]
          simp [Rows.uptoBulkAll, Rows.uptoBulk]
      rw [key]
      simp only [Rows.uptoBulkAll, Rows.uptoBulk] at h
      omega
theorem bulk_len : ∀ (ps : List ByteArray), ps.length ≤ bulkL ps
  | [] => Nat.zero_le _
  | p :: r => by
    have := bulk_len r
    have e : bulkL (p :: r) = (p.size + 1) + bulkL r := by simp [bulkL]
    rw [e, List.length_cons]; omega
theorem bulk_mem : ∀ (ps : List ByteArray) (s : ByteArray), s ∈ ps → s.size ≤ bulkL ps
  | p :: r, s, h => by
    have e : bulkL (p :: r) = (p.size + 1) + bulkL r := by simp [bulkL]
    rw [e]
    rcases List.mem_cons.1 h with rfl | h
    · omega
    · have := bulk_mem r s h; omega
end Go.Proofs.YtffhfmaphjjffaaDoor
