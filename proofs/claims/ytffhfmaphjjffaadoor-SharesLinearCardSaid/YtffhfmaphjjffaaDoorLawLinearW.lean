/- The law SharesLinear walked. -/
import Derived.Test.YtffhfmaphjjffaaDoorShrLinP
import Derived.Test.YtffhfmaphjjffaaDoorShrLawB
import Derived.Test.YtffhfmaphjjffaaDoorUntil
namespace Go.Proofs.YtffhfmaphjjffaaDoor
open Go.RowKit Go.Lib Go.Joins Base
set_option linter.unusedVariables false
set_option linter.unusedSimpArgs false

theorem cut_one (m : ByteArray) (n k : Int) (i c : ByteArray) : (#[Value.string m, .int .i64 n, .int .i64 k, .string i, .string c]).all (·.oneCell') = true :=
  all_oneCell_toArray (cs := [.string m, .int .i64 n, .int .i64 k, .string i, .string c]) (by intro v hv; simp only [List.mem_cons, List.not_mem_nil, or_false] at hv; rcases hv with rfl | rfl | rfl | rfl | rfl <;> rfl)
set_option maxRecDepth 100000 in
set_option maxHeartbeats 4000000 in
theorem linear_law {w : World} (m i c : ByteArray) (n k : Int) (hm : m.size ≤ 140737488351232) (hi : i.size ≤ 140737488351232) (hc : c.size ≤ 140737488351232) (hn : -9223372036854775808 ≤ n ∧ n ≤ 9223372036854775807) (hk : -9223372036854775808 ≤ k ∧ k ≤ 9223372036854775807)
    (m2 : ByteArray) (hm2 : m2.size ≤ 140737488351232) (c2 : ByteArray) (hc2 : c2.size ≤ 140737488351232) (hI : First w) (hR : Roots w) :
    Calls Tryd.prog 4 #[.agg #[.string m, .int .i64 n, .int .i64 k, .string i, .string c], .string m2, .string c2] w fun e w' => e = .returned (.bool true) ∧ Fr [] w w' := by
  have cR := fun w => right_any m i c n k hm hi hc hn hk w
  have cM := fun w => sized_any m2 32 hm2 (by omega) w
  have cC := fun (M : Nat) (h : M ≤ 2097152) w => sized_any c2 M hc2 h w
  have hsz : (Tryd.prog.info? 34).map (·.size) = some 5 := by kernel_rfl
  have hP := At.alloc_new w 34 #[.string m, .int .i64 n, .int .i64 k, .string i, .string c]
  have hF := Fr.alloc [] w (.cells #[.string m, .int .i64 n, .int .i64 k, .string i, .string c] 34)
  have mk1 : True := trivial
  clear hm hi hc hn hk hm2 hc2
  go_enter Tryd.func4, Tryd.ntmps4
  go_wp2_with fail
  obtain ⟨p, hp⟩ : ∃ p, p = w.heap.size := ⟨_, rfl⟩
  rw [← hp] at hP ⊢
  have hpw : w.heap.size ≤ p := by omega
  clear hp
  go_upto_region 2 with (first
    | refine wpList_load_row rfl _ _ rfl _ rfl _ _ _ _ hP.out Tryd.underlying34 rfl hsz ?_
    | (go_at_call 16; refine (cR _).mono ?_; clear cR; rintro e w1 ⟨m', i', c', N, K, rfl, hms, his, hK1, hKN, hN, hcs, f1⟩; have hP := f1.keep hP (by simp); have hF := hF.trans f1)
    | refine wpList_store_row rfl _ _ _ rfl _ _ rfl rfl _ _ hP.out hsz rfl (cut_one _ _ _ _ _) ?_
    | fail)
  have hP := hP.setRow #[Value.string m', .int .i64 N, .int .i64 K, .string i', .string c']
  have hF := hF.new (Fr.setRow [p] w1 p #[Value.string m', .int .i64 N, .int .i64 K, .string i', .string c'] (.inl (by simp))) (by simp; exact hpw)
  clear f1 mk1
  generalize w1.setRow p #[Value.string m', .int .i64 N, .int .i64 K, .string i', .string c'] = W1 at hP hF ⊢
  have hQ := At.alloc_new W1 34 #[Value.string ⟨#[]⟩, .int .i64 0, .int .i64 0, .string ⟨#[]⟩, .string ⟨#[]⟩]
  have hs1 := hP.lt
  obtain ⟨q, hq⟩ : ∃ q, q = W1.heap.size := ⟨_, rfl⟩
  rw [← hq] at hQ
  have hqw : w.heap.size ≤ q := by have := hF.size; omega
  have hpq : p ≠ q := by omega
  try simp only [Act.put]
  go_upto_region 3 with (first
    | refine wpList_load_row rfl _ _ rfl _ rfl _ _ _ _ hP.out Tryd.underlying34 rfl hsz ?_
    | (rw [← hq]; refine wpList_store_row rfl _ _ _ rfl _ _ rfl rfl _ _ hQ.out hsz rfl (cut_one _ _ _ _ _) ?_)
    | fail)
  have hQ := hQ.setRow #[Value.string m', .int .i64 N, .int .i64 K, .string i', .string c']
  have hP := (hP.alloc (.cells #[Value.string ⟨#[]⟩, .int .i64 0, .int .i64 0, .string ⟨#[]⟩, .string ⟨#[]⟩] 34)).setRow_other hpq #[Value.string m', .int .i64 N, .int .i64 K, .string i', .string c']
  have hF := (hF.trans (Fr.alloc [] _ (.cells #[Value.string ⟨#[]⟩, .int .i64 0, .int .i64 0, .string ⟨#[]⟩, .string ⟨#[]⟩] 34))).new (Fr.setRow [q] _ q #[Value.string m', .int .i64 N, .int .i64 K, .string i', .string c'] (.inl (by simp))) (by simp; exact hqw)
  clear hq hs1
  generalize (W1.alloc (.cells #[Value.string ⟨#[]⟩, .int .i64 0, .int .i64 0, .string ⟨#[]⟩, .string ⟨#[]⟩] 34)).setRow q #[Value.string m', .int .i64 N, .int .i64 K, .string i', .string c'] = W2 at hP hQ hF ⊢
  have cC := cC c'.size (by omega)
  obtain ⟨m2', hm2'⟩ : ∃ m2' : ByteArray, m2' = ⟨(sizedL m2.data.toList 32).toArray⟩ := ⟨_, rfl⟩
  obtain ⟨c2', hc2'⟩ : ∃ c2' : ByteArray, c2' = ⟨(sizedL c2.data.toList c'.size).toArray⟩ := ⟨_, rfl⟩
  have hms2 : m2'.size = 32 := by rw [hm2']; show (sizedL _ _).toArray.size = 32; rw [List.size_toArray, sizedL_len]
  have hcs2 : c2'.size = c'.size := by rw [hc2']; show (sizedL _ _).toArray.size = _; rw [List.size_toArray, sizedL_len]
  rw [← hm2'] at cM
  rw [← hc2'] at cC
  have HS := Lib.hid (And.intro hms (And.intro his (And.intro hcs (And.intro hms2 hcs2))))
  have mk2 : True := trivial
  clear hm2' hc2' hms his hcs hms2 hcs2
  try simp only [Act.put]
  go_upto_region 5 with (first
    | (go_at_call 17; clear mk2; refine (cM _).mono ?_; clear cM; rintro e w3 ⟨rfl, f3⟩; have hP := f3.keep hP (by simp); have hQ := f3.keep hQ (by simp); have hF := hF.trans f3; have q0 := hQ.cell 0; have z0 := hQ.frozen 0; have p4 := hP.cell 4)
    | (go_at_call 17; refine (cC _).mono ?_; clear cC; rintro e w4 ⟨rfl, f4⟩; have hP := f4.keep (hP.setCell_other (a := ⟨q, 0, none⟩) hpq (.string m2')) (by simp); have hQ := f4.keep (hQ.setCell 0 (.string m2')) (by simp); have hF := (hF.new (Fr.setCell [q] _ ⟨q, 0, none⟩ (.string m2') (.inl (by simp))) (by simp; exact hqw)).trans f4; have q4 := hQ.cell 4; have z4 := hQ.frozen 4)
    | fail)
  have hP := hP.setCell_other (a := ⟨q, 4, none⟩) hpq (.string c2')
  have hQ := hQ.setCell 4 (.string c2')
  have hF := hF.new (Fr.setCell [q] _ ⟨q, 4, none⟩ (.string c2') (.inl (by simp))) (by simp; exact hqw)
  clear q0 z0 p4 q4 z4 f3 f4
  generalize w4.setCell ⟨q, 4, none⟩ (.string c2') = W3 at hP hQ hF ⊢
  have hX := At.alloc_new W3 34 #[Value.string ⟨#[]⟩, .int .i64 0, .int .i64 0, .string ⟨#[]⟩, .string ⟨#[]⟩]
  obtain ⟨x, hx⟩ : ∃ x, x = W3.heap.size := ⟨_, rfl⟩
  rw [← hx] at hX
  have hxw : w.heap.size ≤ x := by have := hF.size; omega
  have hpx : p ≠ x := by have := hP.lt; omega
  have hqx : q ≠ x := by have := hQ.lt; omega
  try simp only [Act.put]
  go_upto_region 6 with (first
    | refine wpList_load_row rfl _ _ rfl _ rfl _ _ _ _ hP.out Tryd.underlying34 rfl hsz ?_
    | (rw [← hx]; refine wpList_store_row rfl _ _ _ rfl _ _ rfl rfl _ _ hX.out hsz rfl (cut_one _ _ _ _ _) ?_)
    | fail)
  have hX := hX.setRow #[Value.string m', .int .i64 N, .int .i64 K, .string i', .string c']
  have hP := (hP.alloc (.cells #[Value.string ⟨#[]⟩, .int .i64 0, .int .i64 0, .string ⟨#[]⟩, .string ⟨#[]⟩] 34)).setRow_other hpx #[Value.string m', .int .i64 N, .int .i64 K, .string i', .string c']
  have hQ := (hQ.alloc (.cells #[Value.string ⟨#[]⟩, .int .i64 0, .int .i64 0, .string ⟨#[]⟩, .string ⟨#[]⟩] 34)).setRow_other hqx #[Value.string m', .int .i64 N, .int .i64 K, .string i', .string c']
  have hF := (hF.trans (Fr.alloc [] _ (.cells #[Value.string ⟨#[]⟩, .int .i64 0, .int .i64 0, .string ⟨#[]⟩, .string ⟨#[]⟩] 34))).new (Fr.setRow [x] _ x #[Value.string m', .int .i64 N, .int .i64 K, .string i', .string c'] (.inl (by simp))) (by simp; exact hxw)
  clear hx
  generalize (W3.alloc (.cells #[Value.string ⟨#[]⟩, .int .i64 0, .int .i64 0, .string ⟨#[]⟩, .string ⟨#[]⟩] 34)).setRow x #[Value.string m', .int .i64 N, .int .i64 K, .string i', .string c'] = W4 at hP hQ hX hF ⊢
  have hQ : At W4 q 34 [.string m2', .int .i64 N, .int .i64 K, .string i', .string c2'] := hQ
  have hX : At W4 x 34 [.string m', .int .i64 N, .int .i64 K, .string i', .string c'] := hX
  obtain ⟨hms, his, hcs, hms2, hcs2⟩ := HS.out
  have cx1 := fun w => xored26_any m' m2' (by omega) (by omega) w
  have cx2 := fun w => xored26_any c' c2' (by omega) (by omega) w
  obtain ⟨mx, hmx⟩ : ∃ mx : ByteArray, mx = ⟨(xorL m'.data.toList m2'.data.toList).toArray⟩ := ⟨_, rfl⟩
  obtain ⟨cx, hcx⟩ : ∃ cx : ByteArray, cx = ⟨(xorL c'.data.toList c2'.data.toList).toArray⟩ := ⟨_, rfl⟩
  have tl : ∀ b : ByteArray, b.data.toList.length = b.size := fun b => by simp
  have hmxd : mx.data.toList = xorL m'.data.toList m2'.data.toList := by rw [hmx]
  have hcxd : cx.data.toList = xorL c'.data.toList c2'.data.toList := by rw [hcx]
  have hmxs : mx.size = 32 := by rw [← tl, hmxd, xorL_len _ _ (by rw [tl, tl]; omega), tl, hms]
  have hcxs : cx.size = 32 * (K - 1) := by rw [← tl, hcxd, xorL_len _ _ (by rw [tl, tl]; omega), tl, hcs]
  rw [← hmx] at cx1
  rw [← hcx] at cx2
  have s1 := fun w => csplit_any m' i' c' N K hms his hK1 hKN hN hcs w
  have s2 := fun w => csplit_any m2' i' c2' N K hms2 his hK1 hKN hN (by omega) w
  have s3 := fun w => csplit_any mx i' cx N K hmxs his hK1 hKN hN hcxs w
  have lV : ∀ j, ∃ Va Vb Vs : List UInt8, Va.length = 32 ∧ Vb.length = 32 ∧ Vs = xorL Va Vb ∧ shareS m'.data.toList i'.data.toList c'.data.toList K j = textS (UInt8.ofNat (j + 1)) (UInt8.ofNat K) i'.data.toList Va ∧ shareS m2'.data.toList i'.data.toList c2'.data.toList K j = textS (UInt8.ofNat (j + 1)) (UInt8.ofNat K) i'.data.toList Vb ∧ shareS mx.data.toList i'.data.toList cx.data.toList K j = textS (UInt8.ofNat (j + 1)) (UInt8.ofNat K) i'.data.toList Vs := fun j =>
    ⟨_, _, _, valS_len m'.data.toList c'.data.toList K (UInt8.ofNat (j + 1)) (by rw [tl, tl]; omega), valS_len m2'.data.toList c2'.data.toList K (UInt8.ofNat (j + 1)) (by rw [tl, tl]; omega), rfl, rfl, rfl, by
      unfold shareS
      rw [hmxd, hcxd, val_xor _ _ _ _ _ _ (by rw [tl]; exact hms) (by rw [tl]; exact hms2) (by rw [tl]; exact hcs) (by rw [tl]; omega) hK1]⟩
  generalize hPA : splitB m'.data.toList i'.data.toList c'.data.toList N K = PA at s1
  generalize hPB : splitB m2'.data.toList i'.data.toList c2'.data.toList N K = PB at s2
  generalize hPS : splitB mx.data.toList i'.data.toList cx.data.toList N K = PS at s3
  have his8 : i'.data.toList.length = 8 := by rw [tl]; exact his
  have lE : ∀ j, j < N → ∃ (a b s va vb vs hd : ByteArray), PA[j]? = some a ∧ PB[j]? = some b ∧ PS[j]? = some s ∧ a.size = 51 ∧ b.size = 51 ∧ s.size = 51 ∧ a.extract 0 11 = hd ∧ s.extract 0 11 = hd ∧ a.extract 11 43 = va ∧ b.extract 11 43 = vb ∧ s.extract 11 43 = vs ∧ va.size = 32 ∧ vb.size = 32 ∧ vs = ⟨(xorL va.data.toList vb.data.toList).toArray⟩ := fun j hj => by
    obtain ⟨Va, Vb, Vs, h1, h2, h3, e1, e2, e3⟩ := lV j
    have hVs : Vs.length = 32 := by rw [h3, xorL_len _ _ (by omega), h1]
    have sz : ∀ V : List UInt8, V.length = 32 → (⟨(textS (UInt8.ofNat (j + 1)) (UInt8.ofNat K) i'.data.toList V).toArray⟩ : ByteArray).size = 51 := fun V h => by
      show (textS _ _ _ V).toArray.size = 51
      rw [List.size_toArray, textS_len _ _ _ _ his8 h]
    have md : ∀ V : List UInt8, V.length = 32 → (⟨(textS (UInt8.ofNat (j + 1)) (UInt8.ofNat K) i'.data.toList V).toArray⟩ : ByteArray).extract 11 43 = ⟨V.toArray⟩ := fun V h => by
      rw [str_mid _ _ _ (by omega), show 43 - 11 = 32 from rfl, text_val _ _ _ _ his8 h]
    have hd : ∀ V : List UInt8, (⟨(textS (UInt8.ofNat (j + 1)) (UInt8.ofNat K) i'.data.toList V).toArray⟩ : ByteArray).extract 0 11 = ⟨(83 :: UInt8.ofNat (j + 1) :: UInt8.ofNat K :: i'.data.toList).toArray⟩ := fun V => by
      rw [str_take, text_head _ _ _ _ his8]
    refine ⟨⟨(shareS m'.data.toList i'.data.toList c'.data.toList K j).toArray⟩, ⟨(shareS m2'.data.toList i'.data.toList c2'.data.toList K j).toArray⟩, ⟨(shareS mx.data.toList i'.data.toList cx.data.toList K j).toArray⟩, ⟨Va.toArray⟩, ⟨Vb.toArray⟩, ⟨Vs.toArray⟩, ⟨(83 :: UInt8.ofNat (j + 1) :: UInt8.ofNat K :: i'.data.toList).toArray⟩, by rw [← hPA]; simp [splitB, hj], by rw [← hPB]; simp [splitB, hj], by rw [← hPS]; simp [splitB, hj], by rw [e1]; exact sz _ h1, by rw [e2]; exact sz _ h2, by rw [e3]; exact sz _ hVs, by rw [e1]; exact hd _, by rw [e3]; exact hd _, by rw [e1]; exact md _ h1, by rw [e2]; exact md _ h2, by rw [e3]; exact md _ hVs, by show Va.toArray.size = 32; simpa using h1, by show Vb.toArray.size = 32; simpa using h2, by rw [h3]⟩
  have HE := Lib.hid lE
  have HZ := Lib.hid (And.intro hPA (And.intro hPB hPS))
  have p0 := hP.cell 0
  have p4 := hP.cell 4
  have q0 := hQ.cell 0
  have q4 := hQ.cell 4
  have mk3 : True := trivial
  clear lE lV tl hmxd hcxd hmx hcx hms his hcs hms2 hcs2 hmxs hcxs his8 hPA hPB hPS
  try simp only [Act.put]
  go_upto_region 8 with (first
    | (go_at_call 18; clear mk3; refine (cx1 _).mono ?_; clear cx1; rintro e w5 ⟨rfl, f5⟩; have hP := f5.keep hP (by simp); have hQ := f5.keep hQ (by simp); have hX := f5.keep hX (by simp); have hF := hF.trans f5; have x0 := hX.cell 0; have y0 := hX.frozen 0; have p4 := hP.cell 4; have q4 := hQ.cell 4)
    | (go_at_call 18; refine (cx2 _).mono ?_; clear cx2; rintro e w6 ⟨rfl, f6⟩; have hP := f6.keep (hP.setCell_other (a := ⟨x, 0, none⟩) hpx (.string mx)) (by simp); have hQ := f6.keep (hQ.setCell_other (a := ⟨x, 0, none⟩) hqx (.string mx)) (by simp); have hX := f6.keep (hX.setCell 0 (.string mx)) (by simp); have hF := (hF.new (Fr.setCell [x] _ ⟨x, 0, none⟩ (.string mx) (.inl (by simp))) (by simp; exact hxw)).trans f6; have x4 := hX.cell 4; have y4 := hX.frozen 4)
    | fail)
  have hP := hP.setCell_other (a := ⟨x, 4, none⟩) hpx (.string cx)
  have hQ := hQ.setCell_other (a := ⟨x, 4, none⟩) hqx (.string cx)
  have hX := hX.setCell 4 (.string cx)
  have hF := hF.new (Fr.setCell [x] _ ⟨x, 4, none⟩ (.string cx) (.inl (by simp))) (by simp; exact hxw)
  clear p0 p4 q0 q4 x0 y0 x4 y4 f5 f6
  generalize w6.setCell ⟨x, 4, none⟩ (.string cx) = W5 at hP hQ hX hF ⊢
  have hX : At W5 x 34 [.string mx, .int .i64 N, .int .i64 K, .string i', .string cx] := hX
  have mk4 : True := trivial
  have mk5 : True := trivial
  try simp only [Act.put]
  go_upto_region 14 with (first
    | refine wpList_load_row rfl _ _ rfl _ rfl _ _ _ _ hP.out Tryd.underlying34 rfl hsz ?_
    | refine wpList_load_row rfl _ _ rfl _ rfl _ _ _ _ hQ.out Tryd.underlying34 rfl hsz ?_
    | refine wpList_load_row rfl _ _ rfl _ rfl _ _ _ _ hX.out Tryd.underlying34 rfl hsz ?_
    | (go_at_call 19; clear mk4; refine (s1 _ (hI.keep hF) (hR.keep hF (by simp))).mono ?_; clear s1; rintro e w7 ⟨g1, rfl, hg1, hA, f7⟩; have hP := f7.keep hP (by simp); have hQ := f7.keep hQ (by simp); have hX := f7.keep hX (by simp); have hF := hF.trans f7)
    | (go_at_call 19; clear mk5; refine (s2 _ (hI.keep hF) (hR.keep hF (by simp))).mono ?_; clear s2; rintro e w8 ⟨g2, rfl, hg2, hB, f8⟩; have hX := f8.keep hX (by simp); have hF := hF.trans f8; have hA := f8.keep hA (by simp))
    | (go_at_call 19; refine (s3 _ (hI.keep hF) (hR.keep hF (by simp))).mono ?_; clear s3; rintro e w9 ⟨g3, rfl, hg3, hS, f9⟩; have hF := hF.trans f9; have hA := f9.keep hA (by simp); have hB := f9.keep hB (by simp))
    | fail)
  clear hP hQ hX f7 f8 f9
  go_loopw [15] (fun v wr => ∃ j : Nat, j ≤ N ∧ v = .int .i64 j ∧ At wr g1 9 (tcells PA) ∧ At wr g2 9 (tcells PB) ∧ At wr g3 9 (tcells PS) ∧ Fr [] w wr) (fun v _ => N - (intOf v).toNat)
  case atStart => exact ⟨0, by omega, rfl, hA, hB, hS, hF⟩
  case round =>
    clear hA hB hS hF
    obtain ⟨j, hj, rfl, hA, hB, hS, hF⟩ := hrel
    by_cases hl : j < N
    · have l1 : (j : Int) < N := by omega
      obtain ⟨a, b, s, va, vb, vs, hd, ea, eb, es, sa, sb, ss, xa, xs, ya, yb, ys, za, zb, zs⟩ := HE.out j hl
      have ca : ∀ w', At w' g1 9 (tcells PA) → w'.cell? ⟨g1, j, none⟩ = some (.string a) := fun w' h => by rw [h.cell, tcells, List.getElem?_map, ea]; rfl
      have cb : ∀ w', At w' g2 9 (tcells PB) → w'.cell? ⟨g2, j, none⟩ = some (.string b) := fun w' h => by rw [h.cell, tcells, List.getElem?_map, eb]; rfl
      have cs : ∀ w', At w' g3 9 (tcells PS) → w'.cell? ⟨g3, j, none⟩ = some (.string s) := fun w' h => by rw [h.cell, tcells, List.getElem?_map, es]; rfl
      have cx := fun w => xored26_any va vb (by omega) (by omega) w
      rw [← zs] at cx
      have ra := ca _ hA
      have rb := cb _ hB
      have rs := cs _ hS
      clear ea eb es za zb zs
      go_wp2_with fail
      refine wp_region_until (fun w' => w'.cell? ⟨g1, j, none⟩ = some (.string a) ∧ w'.cell? ⟨g2, j, none⟩ = some (.string b) ∧ w'.cell? ⟨g3, j, none⟩ = some (.string s)) (fun _ => True) 1000 (by rfl) ?_
      have hT : True := trivial
      have s0 : wr.drew.cell? ⟨g1, j, none⟩ = some (.string a) ∧ wr.drew.cell? ⟨g2, j, none⟩ = some (.string b) ∧ wr.drew.cell? ⟨g3, j, none⟩ = some (.string s) := ⟨ra, rb, rs⟩
      refine until_s0 0 (v := ?_) rfl (by kernel_rfl) (fun _ _ _ h => h) (Or.inl ⟨by rfl, ?_⟩) (by assumption) (fun h => by first | assumption | exact absurd (h : true = false) (by decide)) ?_
      rotate_left
      · intro w hSw; (try dsimp only at hSw); (try go_simp); (try with_reducible rfl)
      try simp only [Act.put, List.setIfInBounds_toArray, List.set_cons_zero, List.set_cons_succ]
      refine until_s0 1 (v := ?_) rfl (by kernel_rfl) (fun _ _ _ h => h) (Or.inl ⟨by rfl, ?_⟩) (by assumption) (fun h => by first | assumption | exact absurd (h : true = false) (by decide)) ?_
      rotate_left
      · intro w hSw; (try dsimp only at hSw); (try go_simp); (try with_reducible rfl)
      try simp only [Act.put, List.setIfInBounds_toArray, List.set_cons_zero, List.set_cons_succ]
      refine until_s0 2 (v := ?_) rfl (by kernel_rfl) (fun _ _ _ h => h) (Or.inl ⟨by rfl, ?_⟩) (by assumption) (fun h => by first | assumption | exact absurd (h : true = false) (by decide)) ?_
      rotate_left
      · intro w hSw; (try dsimp only at hSw); (try go_simp); (try with_reducible rfl)
      try simp only [Act.put, List.setIfInBounds_toArray, List.set_cons_zero, List.set_cons_succ]
      refine until_s0 3 (v := ?_) rfl (by kernel_rfl) (fun _ _ _ h => h) (Or.inl ⟨by rfl, ?_⟩) (by assumption) (fun h => by first | assumption | exact absurd (h : true = false) (by decide)) ?_
      rotate_left
      · intro w hSw; (try dsimp only at hSw); (try go_simp); (try with_reducible rfl)
      try simp only [Act.put, List.setIfInBounds_toArray, List.set_cons_zero, List.set_cons_succ]
      refine until_s0 4 (v := ?_) rfl (by kernel_rfl) (fun _ _ _ h => h) (Or.inl ⟨by rfl, ?_⟩) (by assumption) (fun h => by first | assumption | exact absurd (h : true = false) (by decide)) ?_
      rotate_left
      · intro w hSw; (try dsimp only at hSw); (try go_simp); (try with_reducible rfl)
      try simp only [Act.put, List.setIfInBounds_toArray, List.set_cons_zero, List.set_cons_succ]
      refine until_s0 5 (v := ?_) rfl (by kernel_rfl) (fun _ _ _ h => h) (Or.inl ⟨by rfl, ?_⟩) (by assumption) (fun h => by first | assumption | exact absurd (h : true = false) (by decide)) ?_
      rotate_left
      · intro w hSw; (try dsimp only at hSw); (try go_simp); (try with_reducible rfl)
      try simp only [Act.put, List.setIfInBounds_toArray, List.set_cons_zero, List.set_cons_succ]
      refine until_s0 6 (v := ?_) rfl (by kernel_rfl) (fun _ _ _ h => h) (Or.inl ⟨by rfl, ?_⟩) (by assumption) (fun h => by first | assumption | exact absurd (h : true = false) (by decide)) ?_
      rotate_left
      · intro w hSw; (try dsimp only at hSw); (try go_simp); (try with_reducible rfl)
      try simp only [Act.put, List.setIfInBounds_toArray, List.set_cons_zero, List.set_cons_succ]
      refine until_s0 7 (v := ?_) rfl (by kernel_rfl) (fun _ _ _ h => h) (Or.inl ⟨by rfl, ?_⟩) (by assumption) (fun h => by first | assumption | exact absurd (h : true = false) (by decide)) ?_
      rotate_left
      · intro w hSw; (try dsimp only at hSw); (try go_simp); (try with_reducible rfl)
      try simp only [Act.put, List.setIfInBounds_toArray, List.set_cons_zero, List.set_cons_succ]
      refine until_s0 8 (v := ?_) rfl (by kernel_rfl) (fun _ _ _ h => h) (Or.inl ⟨by rfl, ?_⟩) (by assumption) (fun h => by first | assumption | exact absurd (h : true = false) (by decide)) ?_
      rotate_left
      · intro w hSw; (try dsimp only at hSw); (try go_simp); (try with_reducible rfl)
      try simp only [Act.put, List.setIfInBounds_toArray, List.set_cons_zero, List.set_cons_succ]
      refine until_s0 9 (v := ?_) rfl (by kernel_rfl) (fun _ _ _ h => h) (Or.inl ⟨by rfl, ?_⟩) (by assumption) (fun h => by first | assumption | exact absurd (h : true = false) (by decide)) ?_
      rotate_left
      · intro w hSw; (try dsimp only at hSw); (try go_simp); (try with_reducible rfl)
      try simp only [Act.put, List.setIfInBounds_toArray, List.set_cons_zero, List.set_cons_succ]
      refine until_s0 10 (v := ?_) rfl (by kernel_rfl) (fun _ _ _ h => h) (Or.inl ⟨by rfl, ?_⟩) (by assumption) (fun h => by first | assumption | exact absurd (h : true = false) (by decide)) ?_
      rotate_left
      · intro w hSw; (try dsimp only at hSw); (try go_simp); (try with_reducible rfl)
      try simp only [Act.put, List.setIfInBounds_toArray, List.set_cons_zero, List.set_cons_succ]
      refine until_s0 11 (v := ?_) rfl (by kernel_rfl) (fun _ _ _ h => h) (Or.inl ⟨by rfl, ?_⟩) (by assumption) (fun h => by first | assumption | exact absurd (h : true = false) (by decide)) ?_
      rotate_left
      · intro w hSw; (try dsimp only at hSw); (try go_simp); (try with_reducible rfl)
      try simp only [Act.put, List.setIfInBounds_toArray, List.set_cons_zero, List.set_cons_succ]
      refine until_s0 12 (v := ?_) rfl (by kernel_rfl) (fun _ _ _ h => h) (Or.inl ⟨by rfl, ?_⟩) (by assumption) (fun h => by first | assumption | exact absurd (h : true = false) (by decide)) ?_
      rotate_left
      · intro w hSw; (try dsimp only at hSw); (try go_simp); (try with_reducible rfl)
      try simp only [Act.put, List.setIfInBounds_toArray, List.set_cons_zero, List.set_cons_succ]
      refine until_s0 13 (v := ?_) rfl (by kernel_rfl) (fun _ _ _ h => h) (Or.inl ⟨by rfl, ?_⟩) (by assumption) (fun h => by first | assumption | exact absurd (h : true = false) (by decide)) ?_
      rotate_left
      · intro w hSw; (try dsimp only at hSw); (try go_simp); (try with_reducible rfl)
      try simp only [Act.put, List.setIfInBounds_toArray, List.set_cons_zero, List.set_cons_succ]
      refine until_s0 14 (v := ?_) rfl (by kernel_rfl) (fun _ _ _ h => h) (Or.inl ⟨by rfl, ?_⟩) (by assumption) (fun h => by first | assumption | exact absurd (h : true = false) (by decide)) ?_
      rotate_left
      · intro w hSw; (try dsimp only at hSw); (try go_simp); (try with_reducible rfl)
      try simp only [Act.put, List.setIfInBounds_toArray, List.set_cons_zero, List.set_cons_succ]
      refine until_s0 15 (v := ?_) rfl (by kernel_rfl) (fun _ _ _ h => h) (Or.inl ⟨by rfl, ?_⟩) (by assumption) (fun h => by first | assumption | exact absurd (h : true = false) (by decide)) ?_
      rotate_left
      · intro w hSw; (try dsimp only at hSw); (try go_simp); (try with_reducible rfl)
      try simp only [Act.put, List.setIfInBounds_toArray, List.set_cons_zero, List.set_cons_succ]
      refine until_s0 16 (v := ?_) rfl (by kernel_rfl) (fun _ _ _ h => h) (Or.inl ⟨by rfl, ?_⟩) (by assumption) (fun h => by first | assumption | exact absurd (h : true = false) (by decide)) ?_
      rotate_left
      · intro w hSw; (try dsimp only at hSw); (try go_simp); (try with_reducible rfl)
      try simp only [Act.put, List.setIfInBounds_toArray, List.set_cons_zero, List.set_cons_succ]
      refine until_s0 17 (v := ?_) rfl (by kernel_rfl) (fun _ _ _ h => h) (Or.inl ⟨by rfl, ?_⟩) (by assumption) (fun h => by first | assumption | exact absurd (h : true = false) (by decide)) ?_
      rotate_left
      · intro w hSw; (try dsimp only at hSw); (try go_simp); (try with_reducible rfl)
      try simp only [Act.put, List.setIfInBounds_toArray, List.set_cons_zero, List.set_cons_succ]
      refine until_s0 18 (v := ?_) rfl (by kernel_rfl) (fun _ _ _ h => h) (Or.inl ⟨by rfl, ?_⟩) (by assumption) (fun h => by first | assumption | exact absurd (h : true = false) (by decide)) ?_
      rotate_left
      · intro w hSw; (try dsimp only at hSw); (try go_simp); (try with_reducible rfl)
      try simp only [Act.put, List.setIfInBounds_toArray, List.set_cons_zero, List.set_cons_succ]
      refine until_s0 19 (v := ?_) rfl (by kernel_rfl) (fun _ _ _ h => h) (Or.inl ⟨by rfl, ?_⟩) (by assumption) (fun h => by first | assumption | exact absurd (h : true = false) (by decide)) ?_
      rotate_left
      · intro w hSw; (try dsimp only at hSw); (try go_simp); (try with_reducible rfl)
      try simp only [Act.put, List.setIfInBounds_toArray, List.set_cons_zero, List.set_cons_succ]
      refine until_s0 20 (v := ?_) rfl (by kernel_rfl) (fun _ _ _ h => h) (Or.inl ⟨by rfl, ?_⟩) (by assumption) (fun h => by first | assumption | exact absurd (h : true = false) (by decide)) ?_
      rotate_left
      · intro w hSw; (try dsimp only at hSw); (try go_simp); (try with_reducible rfl)
      try simp only [Act.put, List.setIfInBounds_toArray, List.set_cons_zero, List.set_cons_succ]
      refine until_s0 21 (v := ?_) rfl (by kernel_rfl) (fun _ _ _ h => h) (Or.inl ⟨by rfl, ?_⟩) (by assumption) (fun h => by first | assumption | exact absurd (h : true = false) (by decide)) ?_
      rotate_left
      · intro w hSw; (try dsimp only at hSw); (try go_simp); (try with_reducible rfl)
      try simp only [Act.put, List.setIfInBounds_toArray, List.set_cons_zero, List.set_cons_succ]
      refine until_s0 22 (v := ?_) rfl (by kernel_rfl) (fun _ _ _ h => h) (Or.inl ⟨by rfl, ?_⟩) (by assumption) (fun h => by first | assumption | exact absurd (h : true = false) (by decide)) ?_
      rotate_left
      · intro w hSw; (try dsimp only at hSw); (try go_simp); (try with_reducible rfl)
      try simp only [Act.put, List.setIfInBounds_toArray, List.set_cons_zero, List.set_cons_succ]
      refine until_s0 23 (v := ?_) rfl (by kernel_rfl) (fun _ _ _ h => h) (Or.inl ⟨by rfl, ?_⟩) (by assumption) (fun h => by first | assumption | exact absurd (h : true = false) (by decide)) ?_
      rotate_left
      · intro w hSw; (try dsimp only at hSw); (try go_simp); (try with_reducible rfl)
      try simp only [Act.put, List.setIfInBounds_toArray, List.set_cons_zero, List.set_cons_succ]
      refine until_s0 24 (v := ?_) rfl (by kernel_rfl) (fun _ _ _ h => h) (Or.inl ⟨by rfl, ?_⟩) (by assumption) (fun h => by first | assumption | exact absurd (h : true = false) (by decide)) ?_
      rotate_left
      · intro w hSw; (try dsimp only at hSw); (try go_simp); (try with_reducible rfl)
      try simp only [Act.put, List.setIfInBounds_toArray, List.set_cons_zero, List.set_cons_succ]
      refine until_s0 25 (v := ?_) rfl (by kernel_rfl) (fun _ _ _ h => h) (Or.inl ⟨by rfl, ?_⟩) (by assumption) (fun h => by first | assumption | exact absurd (h : true = false) (by decide)) ?_
      rotate_left
      · intro w hSw; (try dsimp only at hSw); (try go_simp); (try with_reducible rfl)
      try simp only [Act.put, List.setIfInBounds_toArray, List.set_cons_zero, List.set_cons_succ]
      refine until_s0 26 (v := ?_) rfl (by kernel_rfl) (fun _ _ _ h => h) (Or.inl ⟨by rfl, ?_⟩) (by assumption) (fun h => by first | assumption | exact absurd (h : true = false) (by decide)) ?_
      rotate_left
      · intro w hSw; (try dsimp only at hSw); (try go_simp); (try with_reducible rfl)
      try simp only [Act.put, List.setIfInBounds_toArray, List.set_cons_zero, List.set_cons_succ]
      refine until_sole 27 rfl (by kernel_rfl) (by rfl) ?_
      intro K' hK
      go_simp
      go_at_call 18
      refine (cx _).mono ?_
      rintro _ w3 ⟨rfl, f3⟩
      go_wp2_with fail
      have f3 : Fr [] wr w3 := (Fr.drew _ _).trans f3
      have hA := f3.keep hA (by simp)
      have hB := f3.keep hB (by simp)
      have hS := f3.keep hS (by simp)
      have hF := hF.trans f3
      have s3 : w3.cell? ⟨g1, j, none⟩ = some (.string a) ∧ w3.cell? ⟨g2, j, none⟩ = some (.string b) ∧ w3.cell? ⟨g3, j, none⟩ = some (.string s) := ⟨ca _ hA, cb _ hB, cs _ hS⟩
      refine hK _ _ s3 (fun _ => trivial) ?_
      clear hK s0
      refine until_s0 28 (v := ?_) rfl (by kernel_rfl) (fun _ _ _ h => h) (Or.inl ⟨by rfl, ?_⟩) (by assumption) (fun h => by first | assumption | exact absurd (h : true = false) (by decide)) ?_
      rotate_left
      · intro w hSw; (try dsimp only at hSw); (try go_simp); (try with_reducible rfl)
      try simp only [Act.put, List.setIfInBounds_toArray, List.set_cons_zero, List.set_cons_succ]
      refine until_s0 29 (v := ?_) rfl (by kernel_rfl) (fun _ _ _ h => h) (Or.inl ⟨by rfl, ?_⟩) (by assumption) (fun h => by first | assumption | exact absurd (h : true = false) (by decide)) ?_
      rotate_left
      · intro w hSw; (try dsimp only at hSw); (try go_simp); (try with_reducible rfl)
      try simp only [Act.put, List.setIfInBounds_toArray, List.set_cons_zero, List.set_cons_succ]
      refine until_done (by kernel_rfl) ?_ _
      go_wp2_with fail
      exact ⟨⟨j + 1, by omega, by simp, hA, hB, hS, hF⟩, by simp only [intOf]; omega⟩
    · obtain rfl : j = N := by omega
      go_wp2_with fail
      go_ret
      exact ⟨rfl, hF⟩
end Go.Proofs.YtffhfmaphjjffaaDoor
