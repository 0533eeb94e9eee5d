/- The law SharesMixed walked. -/
import Derived.Test.YtffhfmaphjjffaaDoorLawSpoiltW
import Derived.Test.YtffhfmaphjjffaaDoorUntil
namespace Go.Proofs.YtffhfmaphjjffaaDoor
open Go.RowKit Go.Lib Go.Joins Base
set_option linter.unusedVariables false
set_option linter.unusedSimpArgs false

theorem texts_nodup {ps : List ByteArray} (h : (xsOf (ps.map ptO)).Nodup) : ps.Nodup := by
  have n1 : (ps.map ptO).Nodup := List.Pairwise.of_map (·.1) (fun a b h e => h (congrArg _ e)) h
  exact List.Pairwise.of_map ptO (fun a b h e => h (congrArg _ e)) n1
theorem mixed_nodup (m id c : List UInt8) (N K i : Nat) (id' v' : List UInt8) (hi : i < N) (hN : N ≤ 16) (hid : id.length = 8) (hid' : id'.length = 8) (hl : 32 * K ≤ m.length + c.length) (hv' : v'.length = 32) :
    ((splitB m id c N K).set i (ofV K id' (UInt8.ofNat (i + 1)) v')).Nodup := by
  apply texts_nodup
  have : xsOf (((splitB m id c N K).set i (ofV K id' (UInt8.ofNat (i + 1)) v')).map ptO) = xsOf ((splitB m id c N K).map ptO) := by
    rw [xsOf, xsOf, List.map_set, List.map_set]
    apply List.ext_getElem?
    intro j
    by_cases hj : i = j
    · subst hj
      rw [List.getElem?_set_self (by simp [splitB]; omega), ofV_pt K id' _ _ hid' hv']
      rw [List.getElem?_map, List.getElem?_map, splitB_get m id c N K i hi]
      simp [ofV_pt K id _ _ hid (valS_len _ _ _ _ hl)]
    · rw [List.getElem?_set_ne hj]
  rw [this]
  exact splitB_nodup m id c N K hN hid hl
theorem mixed_facts (m i c m3 i3 cD : ByteArray) (N K : Nat) (hm : m.size = 32) (hi : i.size = 8) (h1 : 1 ≤ K) (h2 : K < N) (h3 : N ≤ 16) (hc : c.size = 32 * (K - 1)) (hm3 : m3.size = 32) (hi3 : i3.size = 8) (hcD : cD.size = 32 * (K - 1)) (a : Nat) (ha : a < N) :
    ∃ ma na la, (splitB m3.data.toList i3.data.toList cD.data.toList N K)[a]? = some ma ∧ (splitB m3.data.toList i.data.toList cD.data.toList N K)[a]? = some na ∧ (splitB m.data.toList i.data.toList c.data.toList N K)[a]? = some la ∧
      ((splitB m.data.toList i.data.toList c.data.toList N K).set a ma).Nodup ∧ ((splitB m.data.toList i.data.toList c.data.toList N K).set a na).Nodup ∧
      (i3 ≠ i → ∀ out, Pick ((splitB m.data.toList i.data.toList c.data.toList N K).set a ma) out → out.length = N → joinV out = ([], 260)) ∧
      (na = la → ∀ out, Pick ((splitB m.data.toList i.data.toList c.data.toList N K).set a na) out → out.length = N → joinV out = (m.data.toList, 0)) ∧
      (na ≠ la → ∀ out, Pick ((splitB m.data.toList i.data.toList c.data.toList N K).set a na) out → out.length = N → joinV out = ([], 260)) := by
  have hl : 32 * K ≤ m.data.toList.length + c.data.toList.length := by rw [ba_len, ba_len]; omega
  have hl3 : 32 * K ≤ m3.data.toList.length + cD.data.toList.length := by rw [ba_len, ba_len]; omega
  have hil : i.data.toList.length = 8 := by rw [ba_len]; exact hi
  have hil3 : i3.data.toList.length = 8 := by rw [ba_len]; exact hi3
  have hv := valS_len m3.data.toList cD.data.toList K (UInt8.ofNat (a + 1)) hl3
  have hml : m.data.toList.length = 32 := by rw [ba_len]; exact hm
  refine ⟨_, _, _, splitB_get _ _ _ _ _ a ha, splitB_get _ _ _ _ _ a ha, splitB_get _ _ _ _ _ a ha, mixed_nodup _ _ _ _ _ _ _ _ ha h3 hil hil3 hl hv, mixed_nodup _ _ _ _ _ _ _ _ ha h3 hil hil hl hv, fun hne out hp ho => ?_, fun he out hp ho => ?_, fun hne out hp ho => ?_⟩
  · refine join_other h1 h2 h3 ha hil hil3 hl hv (fun h => hne ?_) hp ho
    rw [← ba_list i3, h, ba_list]
  · rw [he, set_own _ _ _ (splitB_get _ _ _ _ _ a ha)] at hp
    exact (split_facts m i c N K hm hi h1 (by omega) h3 hc).2.2.1 out hp (by omega)
  · refine join_mixed h1 h2 h3 ha hml hil hl hv (fun h => hne ?_) hp ho
    exact ofV_inj h
set_option maxRecDepth 100000 in
set_option maxHeartbeats 8000000 in
theorem mixed_law {w : World} (v : Value) (x : CutV) (hv : IsCut v x) (vo : Value) (ns : List Int) (ho : IsInts w vo ns) (v2 : Value) (x2 : CutV) (hv2 : IsCut v2 x2) (at_ : Int) (hm0 : (Lit.int .i64 at_).wf = true) (hI : First w) (hR : Roots w) :
    Calls Tryd.prog 9 #[v, vo, v2, .int .i64 at_] w fun e w' => e = .returned (.bool true) ∧ Fr [] w w' := by
  obtain ⟨rfl, h1, h2, h3, h4, h5⟩ := hv
  obtain ⟨rfl, g1, g2, g3, g4, g5⟩ := hv2
  obtain ⟨m, n, k, i, c⟩ := x
  obtain ⟨m2, n2, k2, i2, c2⟩ := x2
  obtain ⟨ado, co, rfl, hO, hnl⟩ := ho
  have cR := fun w => right_any m i c n k h1 h2 h3 h4 h5 w
  have cR2 := fun w => right_any m2 i2 c2 n2 k2 g1 g2 g3 g4 g5 w
  have hmr := int_range hm0
  have hc2 : c2.size ≤ 140737488351232 := g3
  have hsz : (Tryd.prog.info? 34).map (·.size) = some 5 := by kernel_rfl
  have hP := (At.alloc_new w 34 #[.string m, .int .i64 n, .int .i64 k, .string i, .string c]).alloc (.cells #[.string m2, .int .i64 n2, .int .i64 k2, .string i2, .string c2] 34)
  have hQ := At.alloc_new2 w (.cells #[.string m, .int .i64 n, .int .i64 k, .string i, .string c] 34) 34 #[.string m2, .int .i64 n2, .int .i64 k2, .string i2, .string c2]
  have hF : Fr [] w ((w.alloc (.cells #[.string m, .int .i64 n, .int .i64 k, .string i, .string c] 34)).alloc (.cells #[.string m2, .int .i64 n2, .int .i64 k2, .string i2, .string c2] 34)) := (Fr.alloc _ _ _).trans (Fr.alloc _ _ _)
  clear h1 h2 h3 h4 h5 g1 g2 g3 g4 g5 hm0
  go_enter Tryd.func9, Tryd.ntmps9
  go_upto_region 1 with fail
  obtain ⟨p, hp⟩ : ∃ p, p = w.heap.size := ⟨_, rfl⟩
  generalize ((w.alloc (.cells #[.string m, .int .i64 n, .int .i64 k, .string i, .string c] 34)).alloc (.cells #[.string m2, .int .i64 n2, .int .i64 k2, .string i2, .string c2] 34)) = W0 at hP hQ hF ⊢
  rw [← hp] at hP hQ ⊢
  have hpw : w.heap.size ≤ p := by omega
  have hQ : At W0 (p + 1) 34 [.string m2, .int .i64 n2, .int .i64 k2, .string i2, .string c2] := hQ
  clear hp
  have mk1 : True := trivial
  go_upto_region 2 with (first
    | refine wpList_load_row rfl _ _ rfl _ rfl _ _ _ _ hP.out Tryd.underlying34 rfl hsz ?_
    | (go_at_call 16; refine (cR _).mono ?_; clear cR; rintro e w1 ⟨m', i', c', N, K, rfl, hms, his, hK1, hKN, hN, hcs, f1⟩; have hP := f1.keep hP (by simp); have hQ := f1.keep hQ (by simp); have hF := hF.trans f1)
    | refine wpList_store_row rfl _ _ _ rfl _ _ rfl rfl _ _ hP.out hsz rfl (cut_one _ _ _ _ _) ?_
    | fail)
  have hP := hP.setRow #[Value.string m', .int .i64 N, .int .i64 K, .string i', .string c']
  have hQ := hQ.setRow_other (show p + 1 ≠ p by omega) #[Value.string m', .int .i64 N, .int .i64 K, .string i', .string c']
  have hF := hF.new (Fr.setRow [p] w1 p #[Value.string m', .int .i64 N, .int .i64 K, .string i', .string c'] (.inl (by simp))) (by simp; exact hpw)
  clear f1
  generalize w1.setRow p #[Value.string m', .int .i64 N, .int .i64 K, .string i', .string c'] = W1 at hP hQ hF ⊢
  have hP : At W1 p 34 [.string m', .int .i64 N, .int .i64 K, .string i', .string c'] := hP
  have s1 := fun w => csplit_any m' i' c' N K hms his hK1 hKN hN hcs w
  try simp only [Act.put]
  go_upto_region 3 with (first
    | refine wpList_load_row rfl _ _ rfl _ rfl _ _ _ _ hP.out Tryd.underlying34 rfl hsz ?_
    | (go_at_call 19; refine (s1 _ (hI.keep hF) (hR.keep hF (by simp))).mono ?_; clear s1; rintro e w2 ⟨g, rfl, hg, hA, f2⟩; have hP := f2.keep hP (by simp); have hQ := f2.keep hQ (by simp); have hF := hF.trans f2)
    | fail)
  have HS := Lib.hid (And.intro hms (And.intro his hcs))
  clear hms his hcs f2
  go_upto_region 4 with (first
    | refine wpList_load_row rfl _ _ rfl _ rfl _ _ _ _ hQ.out Tryd.underlying34 rfl hsz ?_
    | (go_at_call 16; refine (cR2 _).mono ?_; clear cR2; rintro e w3 ⟨m3, i3, c3, N3, K3, rfl, hm3, hi3, hK3, hKN3, hN3, hcs3, f3⟩; have hP := f3.keep hP (by simp); have hQ := f3.keep hQ (by simp); have hA := f3.keep hA (by simp); have hF := hF.trans f3; have hD := At.alloc_new w3 34 #[Value.string ⟨#[]⟩, .int .i64 0, .int .i64 0, .string ⟨#[]⟩, .string ⟨#[]⟩])
    | refine wpList_store_row rfl _ _ _ rfl _ _ rfl rfl _ _ hD.out hsz rfl (cut_one _ _ _ _ _) ?_
    | fail)
  obtain ⟨D, hDd⟩ : ∃ D, D = w3.heap.size := ⟨_, rfl⟩
  rw [← hDd] at hD ⊢
  have hDw : w.heap.size ≤ D := by have := hF.size; omega
  have hpD : p ≠ D := by have := hP.lt; omega
  have hqD : p + 1 ≠ D := by have := hQ.lt; omega
  have hgD : g ≠ D := by have := hA.lt; omega
  have f4 : Fr [D] w3 ((w3.alloc (.cells #[Value.string ⟨#[]⟩, .int .i64 0, .int .i64 0, .string ⟨#[]⟩, .string ⟨#[]⟩] 34)).setRow D #[Value.string m3, .int .i64 N3, .int .i64 K3, .string i3, .string c3]) := (Fr.alloc _ _ _).trans (Fr.setRow _ _ D _ (.inl (by simp)))
  have hD := hD.setRow #[Value.string m3, .int .i64 N3, .int .i64 K3, .string i3, .string c3]
  have hP := f4.keep hP (by simp; exact hpD)
  have hQ := f4.keep hQ (by simp; exact hqD)
  have hA := f4.keep hA (by simp; exact hgD)
  have hF := hF.new f4 (by simp; exact hDw)
  clear f3 f4 hDd
  generalize ((w3.alloc (.cells #[Value.string ⟨#[]⟩, .int .i64 0, .int .i64 0, .string ⟨#[]⟩, .string ⟨#[]⟩] 34)).setRow D #[Value.string m3, .int .i64 N3, .int .i64 K3, .string i3, .string c3]) = W3 at hP hQ hA hD hF ⊢
  have hD : At W3 D 34 [.string m3, .int .i64 N3, .int .i64 K3, .string i3, .string c3] := hD
  have p1 := hP.cell 1
  have d1 := hD.cell 1
  have z1 := hD.frozen 1
  try simp only [Act.put]
  go_upto_region 5 with fail
  have hD := hD.setCell 1 (.int .i64 N)
  have fD := fun (W : World) (j : Nat) (u : Value) => Fr.setCell [D] W ⟨D, j, none⟩ u (.inl (by simp))
  have hP := (fD W3 1 (.int .i64 N)).keep hP (by simp; exact hpD)
  have hQ := (fD W3 1 (.int .i64 N)).keep hQ (by simp; exact hqD)
  have hA := (fD W3 1 (.int .i64 N)).keep hA (by simp; exact hgD)
  have hF := hF.new (fD W3 1 (.int .i64 N)) (by simp; exact hDw)
  generalize W3.setCell ⟨D, 1, none⟩ (.int .i64 N) = W4 at hP hQ hA hD hF ⊢
  clear p1 d1 z1
  have p2 := hP.cell 2
  have d2 := hD.cell 2
  have z2 := hD.frozen 2
  go_upto_region 6 with fail
  have hD := hD.setCell 2 (.int .i64 K)
  have hP := (fD W4 2 (.int .i64 K)).keep hP (by simp; exact hpD)
  have hQ := (fD W4 2 (.int .i64 K)).keep hQ (by simp; exact hqD)
  have hA := (fD W4 2 (.int .i64 K)).keep hA (by simp; exact hgD)
  have hF := hF.new (fD W4 2 (.int .i64 K)) (by simp; exact hDw)
  generalize W4.setCell ⟨D, 2, none⟩ (.int .i64 K) = W5 at hP hQ hA hD hF ⊢
  clear p2 d2 z2
  have q4 := hQ.cell 4
  have d2 := hD.cell 2
  obtain ⟨Mc, hMc⟩ : ∃ Mc : Nat, Mc = 32 * (K - 1) := ⟨_, rfl⟩
  have u1 : IntKind.i64.wrap ((K : Int) - 1) = (K : Int) - 1 := IntWalk.i64_in _ (by omega)
  have u2 : IntKind.i64.wrap (((K : Int) - 1) * 32) = (Mc : Int) := by rw [IntWalk.i64_in _ (by omega)]; omega
  have cC := fun w => sized_any c2 Mc hc2 (by omega) w
  obtain ⟨cD, hcD⟩ : ∃ cD : ByteArray, cD = ⟨(sizedL c2.data.toList Mc).toArray⟩ := ⟨_, rfl⟩
  have hcDs : cD.size = 32 * (K - 1) := by rw [hcD]; show (sizedL _ _).toArray.size = _; rw [List.size_toArray, sizedL_len, hMc]
  rw [← hcD] at cC
  have HT := Lib.hid (And.intro hm3 (And.intro hi3 hcDs))
  clear hMc hcD hcDs hm3 hi3 hcs3 hc2
  go_upto_region 7 with (first
    | (go_at_call 17; refine (cC _).mono ?_; clear cC; rintro e w6 ⟨rfl, f6⟩; have hP := f6.keep hP (by simp); have hD := f6.keep hD (by simp); have hA := f6.keep hA (by simp); have hF := hF.trans f6; have d4 := hD.cell 4; have z4 := hD.frozen 4)
    | fail)
  have hD := hD.setCell 4 (.string cD)
  have hP := (fD w6 4 (.string cD)).keep hP (by simp; exact hpD)
  have hA := (fD w6 4 (.string cD)).keep hA (by simp; exact hgD)
  have hF := hF.new (fD w6 4 (.string cD)) (by simp; exact hDw)
  generalize w6.setCell ⟨D, 4, none⟩ (.string cD) = W7 at hP hA hD hF ⊢
  clear q4 d2 d4 z4 f6 fD hQ hqD
  have hD : At W7 D 34 [.string m3, .int .i64 N, .int .i64 K, .string i3, .string cD] := hD
  have hE := At.alloc_new W7 34 #[Value.string ⟨#[]⟩, .int .i64 0, .int .i64 0, .string ⟨#[]⟩, .string ⟨#[]⟩]
  obtain ⟨E, hEd⟩ : ∃ E, E = W7.heap.size := ⟨_, rfl⟩
  rw [← hEd] at hE
  have hEw : w.heap.size ≤ E := by have := hF.size; omega
  have hpE : p ≠ E := by have := hP.lt; omega
  have hDE : D ≠ E := by have := hD.lt; omega
  have hgE : g ≠ E := by have := hA.lt; omega
  go_upto_region 8 with (first
    | refine wpList_load_row rfl _ _ rfl _ rfl _ _ _ _ hD.out Tryd.underlying34 rfl hsz ?_
    | (rw [← hEd]; refine wpList_store_row rfl _ _ _ rfl _ _ rfl rfl _ _ hE.out hsz rfl (cut_one _ _ _ _ _) ?_)
    | fail)
  have f8 : Fr [E] W7 ((W7.alloc (.cells #[Value.string ⟨#[]⟩, .int .i64 0, .int .i64 0, .string ⟨#[]⟩, .string ⟨#[]⟩] 34)).setRow E #[Value.string m3, .int .i64 N, .int .i64 K, .string i3, .string cD]) := (Fr.alloc _ _ _).trans (Fr.setRow _ _ E _ (.inl (by simp)))
  have hE := hE.setRow #[Value.string m3, .int .i64 N, .int .i64 K, .string i3, .string cD]
  have hP := f8.keep hP (by simp; exact hpE)
  have hD := f8.keep hD (by simp; exact hDE)
  have hA := f8.keep hA (by simp; exact hgE)
  have hF := hF.new f8 (by simp; exact hEw)
  clear f8 hEd
  generalize ((W7.alloc (.cells #[Value.string ⟨#[]⟩, .int .i64 0, .int .i64 0, .string ⟨#[]⟩, .string ⟨#[]⟩] 34)).setRow E #[Value.string m3, .int .i64 N, .int .i64 K, .string i3, .string cD]) = W8 at hP hA hD hE hF ⊢
  have hE : At W8 E 34 [.string m3, .int .i64 N, .int .i64 K, .string i3, .string cD] := hE
  have p3 := hP.cell 3
  have e3 := hE.cell 3
  have z3 := hE.frozen 3
  try simp only [Act.put]
  go_upto_region 9 with fail
  have fE := Fr.setCell [E] W8 ⟨E, 3, none⟩ (.string i') (.inl (by simp))
  have hE := hE.setCell 3 (.string i')
  have hP := fE.keep hP (by simp; exact hpE)
  have hD := fE.keep hD (by simp; exact hDE)
  have hA := fE.keep hA (by simp; exact hgE)
  have hF := hF.new fE (by simp; exact hEw)
  generalize W8.setCell ⟨E, 3, none⟩ (.string i') = W9 at hP hA hD hE hF ⊢
  clear p3 e3 z3 fE
  have hE : At W9 E 34 [.string m3, .int .i64 N, .int .i64 K, .string i', .string cD] := hE
  have s2 := fun w => csplit_any m3 i3 cD N K HT.out.1 HT.out.2.1 hK1 hKN hN HT.out.2.2 w
  have s3 := fun w => csplit_any m3 i' cD N K HT.out.1 HS.out.2.1 hK1 hKN hN HT.out.2.2 w
  have ltD := hD.lt
  go_upto_region 10 with (first
    | refine wpList_load_row rfl _ _ rfl _ rfl _ _ _ _ hD.out Tryd.underlying34 rfl hsz ?_
    | (go_at_call 19; refine (s2 _ (hI.keep hF) (hR.keep hF (by simp))).mono ?_; clear s2; rintro e w10 ⟨gm, rfl, hgm, hM, f10⟩; have hP := f10.keep hP (by simp); have hE := f10.keep hE (by simp); have hD := f10.keep hD (by simp); have hA := f10.keep hA (by simp); have hF := hF.trans f10)
    | fail)
  go_upto_region 11 with (first
    | refine wpList_load_row rfl _ _ rfl _ rfl _ _ _ _ hE.out Tryd.underlying34 rfl hsz ?_
    | (go_at_call 19; refine (s3 _ (hI.keep hF) (hR.keep hF (by simp))).mono ?_; clear s3; rintro e w11 ⟨gn, rfl, hgn, hNn, f11⟩; have hP := f11.keep hP (by simp); have hD := f11.keep hD (by simp); have hA := f11.keep hA (by simp); have hM := f11.keep hM (by simp); have hF := hF.trans f11)
    | fail)
  clear f10 f11 hE
  have p1 := hP.cell 1
  have p2 := hP.cell 2
  by_cases hKN2 : K = N
  · have b1 : ((K : Int) == N) = true := by simp [hKN2]
    clear hKN2
    go_wp2_with fail
    go_ret
    exact ⟨rfl, hF⟩
  · have b1 : ((K : Int) == N) = false := by simp; omega
    have hlt : K < N := by omega
    have wN : IntKind.i64.wrap ((N : Int) - 1) = (N : Int) - 1 := IntWalk.i64_in _ (by omega)
    have cA : ∀ w, Calls Tryd.prog 27 #[.int .i64 at_, .int .i64 0, .int .i64 ((N : Int) - 1)] w fun e w' => ∃ r, (0 : Int) ≤ r ∧ r ≤ (N : Int) - 1 ∧ e = .returned (.int .i64 r) ∧ Fr [] w w' := fun w => clipped_any at_ 0 ((N : Int) - 1) hmr (by omega) (by omega) (by omega) w
    have mf := fun a ha => mixed_facts m' i' c' m3 i3 cD N K HS.out.1 HS.out.2.1 hK1 hlt hN HS.out.2.2 HT.out.1 HT.out.2.1 HT.out.2.2 a ha
    obtain ⟨L, hL⟩ : ∃ L, L = splitB m'.data.toList i'.data.toList c'.data.toList N K := ⟨_, rfl⟩
    obtain ⟨LM, hLM⟩ : ∃ L, L = splitB m3.data.toList i3.data.toList cD.data.toList N K := ⟨_, rfl⟩
    obtain ⟨LN, hLN⟩ : ∃ L, L = splitB m3.data.toList i'.data.toList cD.data.toList N K := ⟨_, rfl⟩
    rw [← hL] at hA mf
    rw [← hLM] at hM mf
    rw [← hLN] at hNn mf
    have hLl : L.length = N := by rw [hL]; exact splitB_len ..
    have cT := fun w' h => texts26_any L (some ⟨g, 0, none⟩) N (by omega) w' h
    rw [hLl] at cT
    have HM := Lib.hid mf
    have HLL := Lib.hid hLl
    clear hL hLM hLN hKN2 mf hmr hLl
    go_upto_region 15 with (first
      | (go_at_call 27; refine (cA _).mono ?_; clear cA; rintro e w12 ⟨r, hr1, hr2, rfl, f12⟩; obtain ⟨a, rfl⟩ : ∃ a : Nat, r = a := ⟨r.toNat, (by omega)⟩; have hP := f12.keep hP (by simp); have hD := f12.keep hD (by simp); have hA := f12.keep hA (by simp); have hM := f12.keep hM (by simp); have hNn := f12.keep hNn (by simp); have hF := hF.trans f12)
      | (go_at_call 21; refine (cT _ (Texts.ofAt hA)).mono ?_; clear cT; rintro e w13 ⟨v13, rfl, o13, f13⟩; have ltp := hP.lt; have ltD := hD.lt; have lta := hA.lt; have ltm := hM.lt; have ltn := hNn.lt; have hP := f13.keep hP (by simp); have hD := f13.keep hD (by simp); have hA := f13.keep hA (by simp); have hM := f13.keep hM (by simp); have hNn := f13.keep hNn (by simp); have hF13 := hF.trans f13)
      | fail)
    obtain ⟨ma, na, la, hma, hna, hla, nd1, nd2, J1, J2, J3⟩ := HM.out a (by omega)
    obtain ⟨g9, c9, rfl⟩ := ownsRow_form o13 (by omega)
    obtain ⟨R, A9⟩ := own_at o13
    have hg9b := (o13.lt g9 rfl).1
    have hg9 : w.heap.size ≤ g9 := by have := hF.size; omega
    have hp9 : p ≠ g9 := by omega
    have hD9 : D ≠ g9 := by omega
    have ha9 : g ≠ g9 := by omega
    have hm9 : gm ≠ g9 := by omega
    have hn9 : gn ≠ g9 := by omega
    have aL : a < L.length := by have := HLL.out; omega
    rw [← set_own L a la hla] at A9
    have hc9 := cell_set A9 aL
    have fz9 := A9.frozen a
    have hcm : w13.cell? ⟨gm, a, none⟩ = some (.string ma) := by rw [hM.cell]; simp [tcells, hma]
    have al : (a : Int) < N := by omega
    have HJ := Lib.hid (And.intro hma (And.intro hna (And.intro hla (And.intro nd1 (And.intro nd2 (And.intro J1 (And.intro J2 (And.intro J3 aL))))))))
    clear hma hna hla nd1 nd2 J1 J2 J3 aL ltp ltD lta ltm ltn f12 f13 hF o13 hg9b
    go_upto_region 16 with fail
    have f9 := fun (W : World) (u : Value) => Fr.setCell [g9] W ⟨g9, a, none⟩ u (.inl (by simp))
    have A9 := At.put ma A9 HJ.out.2.2.2.2.2.2.2.2
    have hP := (f9 w13 (.string ma)).keep hP (by simp; exact hp9)
    have hD := (f9 w13 (.string ma)).keep hD (by simp; exact hD9)
    have hA := (f9 w13 (.string ma)).keep hA (by simp; exact ha9)
    have hNn := (f9 w13 (.string ma)).keep hNn (by simp; exact hn9)
    have hF := hF13.new (f9 w13 (.string ma)) (by simp; exact hg9)
    generalize w13.setCell ⟨g9, a, none⟩ (.string ma) = W14 at hP hD hA hNn A9 hF ⊢
    have cP : ∀ (t : ByteArray) (w' : World), (L.set a t).Nodup → At w' g9 9 (tcells (L.set a t) ++ R) → Ints w' ado ns → Calls Tryd.prog 28 #[.slice (some ⟨g9, 0, none⟩) N c9, .slice ado ns.length co, .int .i64 N] w' fun e w'' => ∃ v out, e = .returned v ∧ w''.ownsRow w'.heap.size 9 1 v N (tcells out) ∧ out.length = N ∧ Pick (L.set a t) out ∧ Fr [] w' w'' := fun t w' hnd h1 h2 => by
      have hle : (L.set a t).length = N := by rw [List.length_set]; exact HLL.out
      have := picked_any (L.set a t) hnd (some ⟨g9, 0, none⟩) c9 ns ado co (by omega) N (by omega) (by omega) w' (Texts.ofAtR h1) h2
      rw [hle] at this
      exact this
    have c1 := cP ma W14 HJ.out.2.2.2.1 A9 (hO.keep hF)
    have p1 := hP.cell 1
    clear hc9 fz9 hcm hM
    go_upto_region 17 with (first
      | (go_at_call 28; refine c1.mono ?_; clear c1; rintro e w15 ⟨v15, out, rfl, o15, hol, hpk, f15⟩; have hP := f15.keep hP (by simp); have hD := f15.keep hD (by simp); have hA := f15.keep hA (by simp); have hNn := f15.keep hNn (by simp); have A9 := f15.keep A9 (by simp); have hF := hF.trans f15; obtain ⟨E1, hE1⟩ : ∃ E, E = (joinV out).2 := ⟨_, rfl⟩; have hE2 : i3 ≠ i' → E1 = 260 := (fun h => by rw [hE1, HJ.out.2.2.2.2.2.1 h out hpk hol]); have cJ := join_own out (by omega) _ rfl ⟨(joinV out).1.toArray⟩ (by simp) E1 hE1 _ (hI.keep hF) (hR.keep hF (by simp)) o15; have HE2 := Lib.hid hE2; clear hE1 hE2 hol hpk o15)
      | (go_at_call 22; refine cJ.mono ?_; clear cJ; rintro e w16 ⟨rfl, f16⟩; have hP := f16.keep hP (by simp); have hD := f16.keep hD (by simp); have hA := f16.keep hA (by simp); have hNn := f16.keep hNn (by simp); have A9 := f16.keep A9 (by simp); have hF := hF.trans f16)
      | fail)
    clear f15 f16 p1
    have p3 := hP.cell 3
    have d3 := hD.cell 3
    by_cases h33 : i3 = i'
    case' pos =>
      have bq := str_eq h33
      clear h33
      go_upto_region 19 with (first
        | (go_at_call 13; refine (num26_any _ _).mono ?_; rintro _ w17 ⟨rfl, rfl⟩)
        | fail)
      clear bq
    case' neg =>
      have bq := str_neq h33
      obtain rfl := HE2.out h33
      clear h33
      go_upto_region 19 with (first
        | (go_at_call 13; refine (num26_any _ _).mono ?_; rintro _ w17 ⟨rfl, rfl⟩)
        | fail)
      clear bq
    all_goals
      have aL := HJ.out.2.2.2.2.2.2.2.2
      have hc9 := cell_set A9 aL
      have fz9 := A9.frozen a
      have hcn : w16.cell? ⟨gn, a, none⟩ = some (.string na) := by rw [hNn.cell]; simp [tcells, HJ.out.2.1]
      clear aL p3 d3
      go_upto_region 20 with fail
      have A9 := At.put na A9 HJ.out.2.2.2.2.2.2.2.2
      have hP := (f9 w16 (.string na)).keep hP (by simp; exact hp9)
      have hA := (f9 w16 (.string na)).keep hA (by simp; exact ha9)
      have hNn := (f9 w16 (.string na)).keep hNn (by simp; exact hn9)
      have hF := hF.new (f9 w16 (.string na)) (by simp; exact hg9)
      generalize w16.setCell ⟨g9, a, none⟩ (.string na) = W17 at hP hA hNn A9 hF ⊢
      have c1 := cP na W17 HJ.out.2.2.2.2.1 A9 (hO.keep hF)
      have p1 := hP.cell 1
      clear hc9 fz9 hcn
      by_cases hnl : na = la
      case' pos =>
        go_upto_region 21 with (first
          | (go_at_call 28; refine c1.mono ?_; clear c1; rintro e w18 ⟨v18, out2, rfl, o18, hol, hpk, f18⟩; have hP := f18.keep hP (by simp); have hA := f18.keep hA (by simp); have hNn := f18.keep hNn (by simp); have hF := hF.trans f18; have cJ := join_own out2 (by omega) _ (HJ.out.2.2.2.2.2.2.1 hnl out2 hpk hol) m' rfl 0 rfl _ (hI.keep hF) (hR.keep hF (by simp)) o18; clear hol hpk o18)
          | (go_at_call 22; refine cJ.mono ?_; clear cJ; rintro e w19 ⟨rfl, f19⟩; have hP := f19.keep hP (by simp); have hA := f19.keep hA (by simp); have hNn := f19.keep hNn (by simp); have hF := hF.trans f19)
          | fail)
        have bq := str_eq hnl
        have bm := str_eq (rfl : m' = m')
      case' neg =>
        go_upto_region 21 with (first
          | (go_at_call 28; refine c1.mono ?_; clear c1; rintro e w18 ⟨v18, out2, rfl, o18, hol, hpk, f18⟩; have hP := f18.keep hP (by simp); have hA := f18.keep hA (by simp); have hNn := f18.keep hNn (by simp); have hF := hF.trans f18; have cJ := join_own out2 (by omega) _ (HJ.out.2.2.2.2.2.2.2.1 hnl out2 hpk hol) ⟨#[]⟩ rfl 260 rfl _ (hI.keep hF) (hR.keep hF (by simp)) o18; clear hol hpk o18)
          | (go_at_call 22; refine cJ.mono ?_; clear cJ; rintro e w19 ⟨rfl, f19⟩; have hP := f19.keep hP (by simp); have hA := f19.keep hA (by simp); have hNn := f19.keep hNn (by simp); have hF := hF.trans f19)
          | fail)
        have bq := str_neq hnl
      all_goals
        have hcn : w19.cell? ⟨gn, a, none⟩ = some (.string na) := by rw [hNn.cell]; simp [tcells, HJ.out.2.1]
        have hcl : w19.cell? ⟨g, a, none⟩ = some (.string la) := by rw [hA.cell]; simp [tcells, HJ.out.2.2.1]
        have p0 := (hP.drew).cell 0
        clear f18 f19 p1 hnl
        go_region
        go_wp2_with (first
          | (go_at_call 13; refine (num26_any _ _).mono ?_; rintro _ w20 ⟨rfl, rfl⟩)
          | fail)
        go_ret
        exact ⟨rfl, hF.trans (Fr.drew _ _)⟩
end Go.Proofs.YtffhfmaphjjffaaDoor
