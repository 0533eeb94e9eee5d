/- The law SharesExplains walked. -/
import Derived.Test.YtffhfmaphjjffaaDoorDoc2
import Derived.Test.YtffhfmaphjjffaaDoorShaTabs2
import Derived.Test.YtffhfmaphjjffaaDoorUntil
namespace Go.Proofs.YtffhfmaphjjffaaDoor
open Go.RowKit Go.Lib Go.Joins Base
set_option linter.unusedVariables false
set_option linter.unusedSimpArgs false

set_option maxRecDepth 100000 in
set_option maxHeartbeats 4000000 in
theorem explains_law {H : Type} {d0 d1 : DataW H} {w : World} (master : ByteArray) (hmaster : master.size ≤ 140737488351232) (v : Value) (ps : List ByteArray) (hv : IsT w v ps ∧ (Rows.uptoSmall H [d1] = true → bulkL ps ≤ 1048576)) (hk : Rows.uptoSmall H [d0, d1] = true) (hQ : RefRoots w) (hP : Powers w) (hI : First w) (hR : Roots w) :
    Calls Tryd.prog 6 #[.string master, v] w fun e w' => e = .returned (.bool true) ∧ Fr [] w w' := by
  obtain ⟨⟨ad, cap, rfl, hcap, hT, h16⟩, hb⟩ := hv
  have hbulk : bulkL ps ≤ 1048576 := by
    refine hb ?_
    have h := of_decide_eq_true hk
    simp only [Rows.uptoBulkAll] at h
    exact decide_eq_true (by simp only [Rows.uptoBulkAll]; omega)
  have hn : ps.length ≤ 1048576 := Nat.le_trans (bulk_len ps) hbulk
  have hsz : ∀ s ∈ ps, s.size ≤ 1048576 := fun s hs => Nat.le_trans (bulk_mem ps s hs) hbulk
  have hml : (ps ++ marks 64).length = ps.length + 64 := by simp [marks]
  have cL := longer_any ps ad cap hn w hT
  have cJ := fun w' (a : Option Addr) (c : Nat) h1 h2 (h : Texts w' a ps) => explain_any master ps a c (by omega) w' h1 h2 h
  have cD := fun w' f => rexplain_any master ps ad cap (by omega) w' (hP.keep f) (hQ.keep f) (hT.keep f)
  have cS := fun w' (a b : Option Addr) (c d : Nat) h1 h2 => sameTextsD_any (ps ++ marks 64) a b c d (by omega) w' h1 h2
  rw [hml] at cS
  obtain ⟨s1, hs1⟩ : ∃ s1 : ByteArray, s1 = ⟨(explV master.data.toList ps).1.toArray⟩ := ⟨_, rfl⟩
  obtain ⟨E1, hE1⟩ : ∃ E1, E1 = (explV master.data.toList ps).2 := ⟨_, rfl⟩
  rw [← hs1, ← hE1] at cJ cD
  have cU := fun w' (g c : Nat) (R : List Value) h => lturn_any ps ps.length g c rfl (by omega) hsz R w' h
  obtain ⟨qs, hqs⟩ : ∃ qs, qs = turnT ps ps.length := ⟨_, rfl⟩
  rw [← hqs] at cU
  have hql : qs.length = ps.length := by rw [hqs, turnT_len]
  have cJ2 := fun w' (a : Option Addr) (c : Nat) h1 h2 (h : Texts w' a qs) => explain_any master qs a c (by omega) w' h1 h2 h
  have cD2 := fun w' (a : Option Addr) (c : Nat) h1 h2 (h : Texts w' a qs) => rexplain_any master qs a c (by omega) w' h1 h2 h
  have cT2 := fun w' (a : Option Addr) (c : Nat) (h : Texts w' a qs) => texts26_any qs a c (by omega) w' h
  rw [hql] at cJ2 cD2 cT2
  obtain ⟨s2, hs2⟩ : ∃ s2 : ByteArray, s2 = ⟨(explV master.data.toList qs).1.toArray⟩ := ⟨_, rfl⟩
  obtain ⟨E2, hE2⟩ : ∃ E2, E2 = (explV master.data.toList qs).2 := ⟨_, rfl⟩
  rw [← hs2, ← hE2] at cJ2 cD2
  obtain ⟨n, hnd⟩ : ∃ n, n = ps.length := ⟨_, rfl⟩
  rw [← hnd] at cL cJ cD cS cU cJ2 cD2 cT2 hn hml hql ⊢
  have bq1 := str_eq (rfl : s1 = s1)
  have bn1 := str_eq (rfl : s2 = s2)
  have HH := Lib.hid (And.intro hml (And.intro hql hnd))
  clear hs1 hE1 hs2 hE2 hqs hml hql hnd hcap h16 hb hk hbulk hsz hmaster
  go_enter Tryd.func6, Tryd.ntmps6
  go_upto_region 2 with (first
    | (go_at_call 20; refine cL.mono ?_; clear cL; rintro e w1 ⟨v1, rfl, o1, f1⟩)
    | fail)
  obtain ⟨gf, cf, rfl⟩ := ownsRow_form o1 (by omega)
  have hcf := (own_cap o1).1
  have hgf := (o1.lt gf rfl).1
  have cT1 := texts_own2 (ps ++ marks 64) (by have := HH.out.1; omega) w1 o1
  go_upto_region 3 with (first
    | (go_at_call 21; refine cT1.mono ?_; clear cT1; rintro e w2 ⟨v2, rfl, o2, f2⟩; have o1 := own_fr o1 f2 (by simp); have hF := f1.trans f2)
    | fail)
  clear f1 f2
  rw [HH.out.1] at o2
  obtain ⟨g2, c2, rfl⟩ := ownsRow_form o2 (by omega)
  have l1 : (n : Int) ≤ n + 64 := by omega
  have l2 : ((n + 64 : Nat) : Int) ≤ cf := by omega
  have l3 : (n : Int) ≤ cf := by omega
  go_upto_region 4 with (first
    | (go_at_call 25; refine (cJ _ (some ⟨gf, 0, none⟩) cf (hI.keep hF) (hR.keep hF (by simp)) (Texts.ofOwn o1).left).mono ?_; clear cJ; rintro e w3 ⟨rfl, f3⟩; have o1 := own_fr o1 f3 (by simp); have o2 := own_fr o2 f3 (by simp); have hF := hF.trans f3)
    | fail)
  go_upto_region 5 with (first
    | (go_at_call 26; refine (cD _ hF).mono ?_; clear cD; rintro e w4 ⟨rfl, f4⟩; have o1 := own_fr o1 f4 (by simp); have o2 := own_fr o2 f4 (by simp); have hF := hF.trans f4)
    | fail)
  go_upto_region 7 with (first
    | (go_at_call 13; refine (num26_any _ _).mono ?_; rintro _ w5 ⟨rfl, rfl⟩)
    | (go_at_call 14; refine (cS _ _ _ _ _ (Texts.ofOwn o1) (Texts.ofOwn o2)).mono ?_; clear cS; rintro e w6 ⟨rfl, f6⟩; have o1 := own_fr o1 f6 (by simp); have hF := hF.trans f6)
    | fail)
  clear f3 f4 f6 o2
  obtain ⟨R0, A0⟩ := own_atT o1
  rw [tcells_app, List.append_assoc] at A0
  clear o1
  go_upto_region 8 with (first
    | (go_at_call 24; refine (cU _ _ _ _ A0).mono ?_; clear cU; rintro e w7 ⟨rfl, A1, f7⟩; have hF := hF.new f7 (by simp; exact hgf))
    | fail)
  clear A0 f7
  go_upto_region 9 with (first
    | (go_at_call 25; refine (cJ2 _ (some ⟨gf, 0, none⟩) cf (hI.keep hF) (hR.keep hF (by simp)) (Texts.ofAtT A1)).mono ?_; clear cJ2; rintro e w8 ⟨rfl, f8⟩; have A1 := f8.keep A1 (by simp); have hF := hF.trans f8)
    | fail)
  go_upto_region 10 with (first
    | (go_at_call 21; refine (cT2 _ _ _ (Texts.ofAtT A1)).mono ?_; clear cT2; rintro e w9 ⟨v9, rfl, o9, f9⟩; have hF := hF.trans f9; obtain ⟨ad9, c9, rfl, h9⟩ := own_val o9; clear h9)
    | (go_at_call 26; refine (cD2 _ _ _ (hP.keep hF) (hQ.keep hF) (Texts.ofOwn o9)).mono ?_; clear cD2; rintro e w10 ⟨rfl, f10⟩; have hF := hF.trans f10)
    | fail)
  go_wp2_with (first
    | (go_at_call 13; refine (num26_any _ _).mono ?_; rintro _ w11 ⟨rfl, rfl⟩)
    | fail)
  go_ret
  exact ⟨rfl, hF⟩
end Go.Proofs.YtffhfmaphjjffaaDoor
