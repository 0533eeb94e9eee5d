/- Join of the program. -/
import Derived.Test.YtffhfmaphjjffaaDoorJnEq
import Derived.Test.YtffhfmaphjjffaaDoorJnTog
import Derived.Test.YtffhfmaphjjffaaDoorJnP
import Derived.Test.YtffhfmaphjjffaaDoorUntil
namespace Go.Proofs.YtffhfmaphjjffaaDoor
open Go.RowKit Go.Lib Go.Joins Base Gf
set_option linter.unusedVariables false
set_option linter.unusedSimpArgs false

theorem Pts.take {w : World} {g o : Nat} {l : List Pt} (h : Pts w g o l) (k : Nat) : Pts w g o (l.take k) := ⟨h.1, fun i p hp => h.2 i p (by
  rw [List.getElem?_take] at hp; split at hp
  · exact hp
  · simp at hp)⟩
theorem pts_own {w : World} {b g c n : Nat} {e : TypeId} {ps : List ByteArray} (h : w.ownsRow b e 33 (.slice (some ⟨g, 0, none⟩) n c) n (ptsC ps)) (hps : ∀ s ∈ ps, (ptO s).2.length = 32) : Pts w g 0 (ps.map ptO) := by
  refine ⟨(h.lt g rfl).2, fun i p hp j v hv => ?_⟩
  rw [List.getElem?_map, Option.map_eq_some_iff] at hp
  obtain ⟨s, hs, rfl⟩ := hp
  have hl := hps s (List.mem_of_getElem? hs)
  have hj : j < 33 := by have := (List.getElem?_eq_some_iff.1 hv).1; rw [ptCells_len _ hl] at this; exact this
  have := World.ownsRow.cells h rfl (i * 33 + j) v (by
    rw [ptsC, flat_get (m := 33) ps i j s (fun t ht => ptCells_len _ (hps t ht)) hs hj]; exact hv)
  rw [addr_add'] at this
  rw [← this]
  congr 2
  omega
set_option maxRecDepth 100000 in
set_option maxHeartbeats 8000000 in
theorem join_any (ps : List ByteArray) (ad : Option Addr) (cap : Nat) (hn : ps.length ≤ 4194304) (w : World) (hI : First w) (hR : Roots w) (hT : Texts w ad ps) :
    Calls Tryd.prog 22 #[.slice ad ps.length cap] w fun e w' => e = .returned (.tuple #[.string ⟨(joinV ps).1.toArray⟩, .int .i64 (joinV ps).2]) ∧ Fr [] w w' := by
  have hi2 : (Tryd.prog.info? 69).map (·.size) = some 2 := by kernel_rfl
  have cT := together_any ps ad cap hn w hI hR hT
  have hiU5 : (Tryd.prog.info? 5).map (fun i => (i.zero, i.size, i.bytes)) = some (some (.int .u8 0), 1, 1) := by kernel_rfl
  obtain ⟨iU, hiU, _, _, _⟩ := info_parts hiU5
  have HN := Lib.hid (And.intro hn hT)
  clear hn hT
  by_cases hE : togE ps = 0
  · obtain ⟨z1, z2, z3⟩ := togE_zero hE
    have h32 : ∀ s ∈ ps, (ptO s).2.length = 32 := fun s hs => valD_len _ (z1 s hs)
    by_cases h0 : ps = []
    · have cT : Calls Tryd.prog 35 #[.slice ad ps.length cap] w fun e w' => Fr [] w w' ∧ ∃ a c, e = .returned (.tuple #[.slice a 0 c, kin0, .int .i64 0]) := cT.mono (by
        rintro e w' ⟨f, v, K, rfl, _, h1⟩
        obtain ⟨h2, h3, _⟩ := h1 hE
        have hK := h3 h0
        subst hK
        have hl : ps.length = 0 := by rw [h0]; rfl
        rw [hl] at h2
        refine ⟨f, ?_⟩
        rw [hE]
        rcases ownsRow_forms h2 with ⟨rfl, _⟩ | ⟨g, c, rfl⟩
        · exact ⟨_, _, rfl⟩
        · exact ⟨_, _, rfl⟩)
      rw [join_none hE h0]
      clear hE z1 z2 z3 h32 h0
      go_enter Tryd.func22, Tryd.ntmps22
      unfold kin0 at cT
      go_wp2_with (first
        | (go_at_call 35; refine cT.mono ?_; clear cT; rintro e w1 ⟨f1, a, c, rfl⟩; have A0 := At.alloc_new w1 69 #[.int .i64 0, .string ⟨#[]⟩])
        | refine wpList_store_row rfl _ _ _ rfl _ _ rfl rfl _ _ A0.out hi2 rfl (kin_one _ _) ?_
        | fail)
      have A0 := A0.setRow #[.int .i64 0, .string ⟨#[]⟩]
      have q0 := A0.cell 0
      have hF := (f1.trans (Fr.alloc [] w1 (.cells #[.int .i64 0, .string ⟨#[]⟩] 69))).new (Fr.setRow [w1.heap.size] _ w1.heap.size #[.int .i64 0, .string ⟨#[]⟩] (.inl (by simp))) (by have := f1.size; simp; omega)
      generalize ((w1.alloc (.cells #[.int .i64 0, .string ⟨#[]⟩] 69)).setRow w1.heap.size #[.int .i64 0, .string ⟨#[]⟩]) = W at q0 hF ⊢
      go_wp2_with fail
      go_ret2
      exact ⟨rfl, hF⟩
    · obtain ⟨s, hs⟩ : ∃ s, ps[0]? = some s := ⟨_, List.getElem?_eq_getElem (by cases ps <;> simp_all)⟩
      have hl0 : 0 < ps.length := (List.getElem?_eq_some_iff.1 hs).1
      have hkr : 1 ≤ (kinO s).1 ∧ (kinO s).1 ≤ 16 := by
        have := isE_parts _ (z1 s (List.mem_of_getElem? hs))
        exact ⟨this.2.2.2.2.2.1, this.2.2.2.2.2.2⟩
      have cT : Calls Tryd.prog 35 #[.slice ad ps.length cap] w fun e w' => Fr [] w w' ∧ ∃ g c, ps.length ≤ c ∧ c ≤ maxLen ∧ e = .returned (.tuple #[.slice (some ⟨g, 0, none⟩) ps.length c, .agg (kinCells (kinO s)).toArray, .int .i64 0]) ∧ Pts w' g 0 (ps.map ptO) ∧ w.heap.size ≤ g := cT.mono (by
        rintro e w' ⟨f, v, K, rfl, _, h1⟩
        obtain ⟨h2, _, h3⟩ := h1 hE
        have hK := h3 s hs
        subst hK
        refine ⟨f, ?_⟩
        rw [hE]
        obtain ⟨g, c, rfl⟩ := ownsRow_form h2 hl0
        exact ⟨g, c, (own_cap h2).1, (own_cap h2).2, rfl, pts_own h2 h32, (h2.lt g rfl).1⟩)
      obtain ⟨k, hk⟩ : ∃ k, k = kinO s := ⟨_, rfl⟩
      rw [← hk] at cT hkr
      obtain ⟨l, hL⟩ : ∃ l, l = ps.map ptO := ⟨_, rfl⟩
      rw [← hL] at cT
      have hll : l.length = ps.length := by rw [hL]; simp
      have hl32 : ∀ p ∈ l, p.2.length = 32 := fun p hp => by
        rw [hL] at hp
        obtain ⟨t, ht, rfl⟩ := List.mem_map.1 hp
        exact h32 t ht
      obtain ⟨R, hRd⟩ : ∃ R, R = joinV ps := ⟨_, rfl⟩
      have hR1 : ps.length < k.1 → R = ([], 262) := fun h => by rw [hRd]; exact join_few hE s hs (by rw [← hk]; exact h)
      have hR2 : ¬ ps.length < k.1 → (∀ p ∈ l.drop k.1, atR (l.take k.1) p.1 = p.2) → R = (atR (l.take k.1) 0, 0) := fun h ha => by
        rw [hRd, hL, hk]; rw [hL, hk] at ha; exact join_ok hE s hs (by rw [← hk]; exact h) ha
      have hR3 : ¬ ps.length < k.1 → (¬ ∀ p ∈ l.drop k.1, atR (l.take k.1) p.1 = p.2) → R = ([], 260) := fun h ha => by
        rw [hRd]; rw [hL, hk] at ha; exact join_split hE s hs (by rw [← hk]; exact h) ha
      have hn := HN.out.1
      rw [← hRd]
      have HR := Lib.hid (And.intro hR1 (And.intro hR2 hR3))
      obtain ⟨n, hnd⟩ : ∃ n, n = ps.length := ⟨_, rfl⟩
      rw [← hnd] at cT hn hl0 hll ⊢
      have HL := Lib.hid (And.intro hll (And.intro hl32 hnd))
      have hbl0 : ((n : Int) == 0) = false := by simp; omega
      clear hE z1 z2 z3 h32 h0 hs hL hRd hR1 hR2 hR3 hll hl32 hnd HN hk
      have k1 : 1 ≤ (k.1 : Int) := by omega
      have hol : #[Value.int .i64 0, .string ⟨#[]⟩].size = (kinCells k).toArray.size := rfl
      go_enter Tryd.func22, Tryd.ntmps22
      go_upto_region 2 with (first
        | (go_at_call 35; refine cT.mono ?_; clear cT; rintro e w1 ⟨f1, g, c, hc1, hc2, rfl, hP, hg⟩; have A0 := At.alloc_new w1 69 #[.int .i64 0, .string ⟨#[]⟩])
        | refine wpList_store_row rfl _ _ _ rfl _ _ rfl rfl _ _ A0.out hi2 hol (kinC_one k) ?_
        | fail)
      have A0 := A0.setRow (kinCells k).toArray
      obtain ⟨B, hBd⟩ : ∃ B, B = w1.heap.size := ⟨_, rfl⟩
      rw [← hBd] at A0 ⊢
      have hBw : w.heap.size ≤ B := by have := f1.size; omega
      have f2 : Fr [B] w1 ((w1.alloc (.cells #[.int .i64 0, .string ⟨#[]⟩] 69)).setRow B (kinCells k).toArray) := (Fr.alloc _ _ _).trans (Fr.setRow _ _ B _ (.inl (by simp)))
      have hgB : g ≠ B := by have := hP.1; omega
      have hP := hP.keep f2 (by simp; exact hgB)
      have hF := f1.new f2 (by simp; omega)
      clear f1 f2 hBd
      generalize ((w1.alloc (.cells #[.int .i64 0, .string ⟨#[]⟩] 69)).setRow B (kinCells k).toArray) = W at A0 hP hF ⊢
      try simp only [Act.put]
      have A0 : At W B 69 (kinCells k) := A0
      have q0 : W.cell? ⟨B, 0, none⟩ = some (.int .i64 k.1) := A0.cell 0
      by_cases hlt : n < k.1
      · have l1 : (n : Int) < k.1 := by omega
        go_wp2_with fail
        go_ret2
        exact ⟨by rw [HR.out.1 (by rw [← HL.out.2.2]; exact hlt)]; rfl, hF⟩
      · have l1 : ¬ (n : Int) < k.1 := by omega
        have l2 : (k.1 : Int) ≤ n := by omega
        have l3 : (n : Int) ≤ c := by omega
        have cA := fun (x : UInt8) (c' : Nat) (w' : World) (h : Pts w' g 0 l) => at_any (l.take k.1) (fun p hp => HL.out.2.1 p (List.mem_of_mem_take hp)) (by simp; have := HL.out.1; omega) g 0 c' x w' (h.take k.1)
        have htk : (l.take k.1).length = k.1 := by have := HL.out.1; simp; omega
        rw [htk] at cA
        have hal : ∀ x, (atR (l.take k.1) x).length = 32 := fun x => atR_len _ _ (fun p hp => HL.out.2.1 p (List.mem_of_mem_take hp))
        obtain ⟨X, hX⟩ : ∃ X : UInt8 → List UInt8, X = atR (l.take k.1) := ⟨_, rfl⟩
        rw [← hX] at cA hal
        have hR2 := HR.out.2.1 (by rw [← HL.out.2.2]; exact hlt)
        have hR3 := HR.out.2.2 (by rw [← HL.out.2.2]; exact hlt)
        rw [← hX] at hR2 hR3
        obtain ⟨d, hd⟩ : ∃ d, d = n - k.1 := ⟨_, rfl⟩
        have HRR := Lib.hid (And.intro hR2 (And.intro hR3 (And.intro hal (And.intro hd hX))))
        have l4 : k.1 ≤ n := by omega
        clear hR2 hR3 htk hal hX
        by_cases hck : c = k.1
        · subst hck
          have hz : d = 0 := by omega
          have HZ := Lib.hid hz
          clear hz hd
          go_upto_region 7 with fail
          go_loopw [8, 36] (fun _ v wr => ∃ i : Nat, i ≤ d ∧ v = .int .i64 i ∧ (∀ j p, j < i → l[k.1 + j]? = some p → X p.1 = p.2) ∧ At wr B 69 (kinCells k) ∧ Pts wr g 0 l ∧ Fr [] w wr) (fun _ v _ => d - (intOf v).toNat)
          case atStart => exact ⟨0, by omega, rfl, fun j p hj => by omega, A0, hP, hF⟩
          case round =>
            clear A0 hP hF q0
            obtain ⟨i, hi, rfl, hall, A0, hP, hF⟩ := hrel
            have HALL := Lib.hid hall
            clear hall
            obtain rfl : i = 0 := by have := HZ.out; omega
            have hjoin := HRR.out.1 (fun p hp => by
              obtain ⟨j, hj, rfl⟩ := List.mem_iff_getElem.1 hp
              rw [List.length_drop] at hj
              rw [List.getElem_drop]
              exact HALL.out j _ (by have := HL.out.1; have := HRR.out.2.2.2.1; omega) (List.getElem?_eq_getElem _))
            have c0 := fun c' w' h => cA 0 c' w' h
            rw [show bt 0 = 0 from rfl] at c0
            have hal0 : (X 0).length = 32 := HRR.out.2.2.1 0
            have q0 : wr.cell? ⟨B, 0, none⟩ = some (.int .i64 k.1) := A0.cell 0
            generalize X 0 = X0 at c0 hal0 hjoin
            have HJ := Lib.hid hjoin
            clear cA hjoin
            obtain ⟨vs, hvs⟩ : ∃ vs : ByteArray, vs = ⟨X0.toArray⟩ := ⟨_, rfl⟩
            have hcw : ∀ w' g, At w' g 63 (byteCells X0) → (convert 55 9 (.slice (some ⟨g, 0, none⟩) 32 32)).run Tryd.prog w' = .ok (.string vs) w' := fun w' g h => by
              rw [hvs]; exact run_strB (P := Tryd.prog) (d := 9) Tryd.underlying55 Tryd.underlying5 Tryd.underlying9 w' g 0 32 63 X0 [] [] (by simpa using h) rfl 32 hal0.symm
            have hi9 : (Tryd.prog.info? 63).map (·.size) = some (byteCells X0).toArray.size := by rw [List.size_toArray, byteCells_length, hal0]; kernel_rfl
            have hol9 : (byteCells (zerosB 32)).toArray.size = (byteCells X0).toArray.size := by simp [byteCells_length, hal0, zerosB]
            have hal9 : (byteCells X0).toArray.all (·.oneCell') = true := all_oneCell_toArray (byteCells_one X0)
            have HV := Lib.hid hvs
            clear hvs hal0
            go_upto_region 13 with (first
              | (go_at_call 36; refine (c0 _ _ hP).mono ?_; clear c0; rintro e w5 ⟨rfl, f5⟩; have hF := hF.trans f5; have A9 := At.alloc_new w5 63 (byteCells (zerosB 32)).toArray)
              | (rw [lit32]; refine wpList_store_row rfl _ _ _ rfl _ _ rfl rfl _ _ A9.out hi9 hol9 hal9 ?_)
              | fail)
            have A9 := A9.setRow (byteCells X0).toArray
            rw [List.toList_toArray] at A9
            have hF := (hF.trans (Fr.alloc [] w5 (.cells (byteCells (zerosB 32)).toArray 63))).new (Fr.setRow [w5.heap.size] _ w5.heap.size (byteCells X0).toArray (.inl (by simp))) (by have := hF.size; simp; omega)
            obtain ⟨q, hq⟩ : ∃ q, q = w5.heap.size := ⟨_, rfl⟩
            rw [← hq] at A9 hF ⊢
            generalize ((w5.alloc (.cells (byteCells (zerosB 32)).toArray 63)).setRow q (byteCells X0).toArray) = W5 at A9 hF ⊢
            try simp only [Act.put]
            have hc9 := hcw _ _ A9
            clear hcw hq
            go_wp2_with fail
            go_ret2
            exact ⟨by rw [HJ.out, HV.out]; rfl, hF⟩
        · have hck' : ¬ c ≤ k.1 := by omega
          clear hd
          go_upto_region 7 with fail
          rw [← HRR.out.2.2.2.1]
          clear hck hck'
          go_loopw [8, 36] (fun _ v wr => ∃ i : Nat, i ≤ d ∧ v = .int .i64 i ∧ (∀ j p, j < i → l[k.1 + j]? = some p → X p.1 = p.2) ∧ At wr B 69 (kinCells k) ∧ Pts wr g 0 l ∧ Fr [] w wr) (fun _ v _ => d - (intOf v).toNat)
          case atStart => exact ⟨0, by omega, rfl, fun j p hj => by omega, A0, hP, hF⟩
          case round =>
            clear A0 hP hF q0
            obtain ⟨i, hi, rfl, hall, A0, hP, hF⟩ := hrel
            have HALL := Lib.hid hall
            clear hall
            by_cases hl : i < d
            · have l5 : (i : Int) < d := by omega
              have hib : i < 4194304 := by have := HRR.out.2.2.2.1; omega
              obtain ⟨P, hPn⟩ : ∃ P, l[k.1 + i]? = some P := ⟨_, List.getElem?_eq_getElem (by have := HL.out.1; have := HRR.out.2.2.2.1; omega)⟩
              have hPl : P.2.length = 32 := HL.out.2.1 P (List.mem_of_getElem? hPn)
              have hld : wr.rangeAt g (k.1 * 33 + i * 33) (ptCells P) := by
                have := hP.2 (k.1 + i) P hPn
                rwa [show 0 + (k.1 + i) * 33 = k.1 * 33 + i * 33 by omega] at this
              have hi3 : (Tryd.prog.info? 66).map (·.size) = some (ptCells P).length := by rw [ptCells_len P hPl]; kernel_rfl
              have hi3' : (Tryd.prog.info? 66).map (·.size) = some (ptCells P).toArray.size := by rw [List.size_toArray]; exact hi3
              have hold : (List.replicate 33 (Value.int .u8 0)).toArray.size = (ptCells P).toArray.size := by rw [List.size_toArray, List.size_toArray, ptCells_len P hPl]; rfl
              have A2 := At.alloc_new wr 66 (List.replicate 33 (Value.int .u8 0)).toArray
              obtain ⟨q, hq⟩ : ∃ q, q = wr.heap.size := ⟨_, rfl⟩
              rw [← hq] at A2
              have hqw : w.heap.size ≤ q := by have := hF.size; omega
              have hBq : B ≠ q := by have := A0.lt; omega
              have hgq : g ≠ q := by have := hP.1; omega
              have hXl := HRR.out.2.2.1 P.1
              have hbad := HRR.out.2.1
              have HPn := Lib.hid (And.intro hPn (And.intro hPl hbad))
              clear hPn hbad
              go_upto_region 9 with (first
                | refine wpList_load_mid rfl _ _ rfl g (k.1 * 33 + i * 33) rfl (ptCells P) _ hld Tryd.underlying66 rfl hi3 ?_
                | (rw [lit33, ← hq]; refine wpList_store_row rfl _ _ _ rfl _ _ rfl rfl _ _ A2.out hi3' hold (ptCells_one _) ?_)
                | fail)
              have A2 := A2.setRow (ptCells P).toArray
              rw [List.toList_toArray] at A2
              have f6 : Fr [q] wr ((wr.alloc (.cells (List.replicate 33 (Value.int .u8 0)).toArray 66)).setRow q (ptCells P).toArray) := (Fr.alloc _ _ _).trans (Fr.setRow _ _ q _ (.inl (by simp)))
              have A0 := f6.keep A0 (by simp; omega)
              have hP := hP.keep f6 (by simp; omega)
              have hF := hF.new f6 (by simp; omega)
              clear f6 hq hld
              generalize (wr.alloc (.cells (List.replicate 33 (Value.int .u8 0)).toArray 66)).setRow q (ptCells P).toArray = W2 at A0 A2 hP hF ⊢
              try simp only [Act.put]
              have hmid : ∀ w', At w' q 66 (ptCells P) → w'.rangeAt q 1 (byteCells P.2) := fun w' h j v hv => by
                rw [h.cell, ← hv, Nat.add_comm]; rfl
              have hi5 : (Tryd.prog.info? 63).map (·.size) = some (byteCells P.2).length := by rw [byteCells_length, hPl]; kernel_rfl
              have ldR : ∀ w', At w' q 66 (ptCells P) → (loadVar 63 ⟨q, 1, none⟩).run Tryd.prog w' = .ok (.agg (byteCells P.2).toArray) w' := fun w' h => run_loadVar_mid (P := Tryd.prog) w' q 1 63 (byteCells P.2) _ (hmid w' h) Tryd.underlying63 rfl hi5
              have hnq := fun w' => run_neqRows (P := Tryd.prog) (t := 63) (e := 5) (by kernel_rfl) Tryd.underlying5 Tryd.underlying63 hiU (by kernel_rfl) (X P.1) P.2 hXl hPl w'
              have c1 := fun c' w' h => cA P.1 c' w' h
              obtain ⟨px, hpx⟩ : ∃ px, px = P.1 := ⟨_, rfl⟩
              obtain ⟨py, hpy⟩ : ∃ py, py = P.2 := ⟨_, rfl⟩
              rw [← hpx] at c1 hnq
              rw [← hpy] at ldR hnq
              have HPX := Lib.hid (And.intro hpx hpy)
              clear hmid hi5 hi3 hi3' hold hXl hPl
              have mkS : ∀ w', At w' B 69 (kinCells k) → At w' q 66 (ptCells P) → w'.cell? ⟨B, 0, none⟩ = some (.int .i64 k.1) ∧ w'.cell? ⟨q, 0, none⟩ = some (.int .u8 (bt px)) ∧ (loadVar 63 ⟨q, 1, none⟩).run Tryd.prog w' = .ok (.agg (byteCells py).toArray) w' := fun w' h1 h2 => ⟨h1.cell 0, by rw [h2.cell 0, hpx]; rfl, ldR w' h2⟩
              clear hpx hpy ldR
              refine wp_region_until (fun w' => w'.cell? ⟨B, 0, none⟩ = some (.int .i64 k.1) ∧ w'.cell? ⟨q, 0, none⟩ = some (.int .u8 (bt px)) ∧ (loadVar 63 ⟨q, 1, none⟩).run Tryd.prog w' = .ok (.agg (byteCells py).toArray) w') (fun _ => True) 1000 (by rfl) ?_
              have hT : True := trivial
              have A0 := A0.drew
              have A2 := A2.drew
              have hP := hP.keep (Fr.drew [] _) (by simp)
              have hF := hF.trans (Fr.drew [] _)
              generalize W2.drew = W3 at A0 A2 hP hF ⊢
              have s0 := mkS _ A0 A2
              refine until_s0 0 (v := ?_) rfl (by kernel_rfl) (fun _ _ _ h => h) (Or.inl ⟨by rfl, ?_⟩) (by assumption) (fun h => by first | assumption | exact absurd (h : true = false) (by decide)) ?_
              rotate_left
              · intro w hSw; (try dsimp only at hSw); (try go_simp); (try with_reducible rfl)
              try simp only [Act.put, List.setIfInBounds_toArray, List.set_cons_zero, List.set_cons_succ]
              refine until_s0 1 (v := ?_) rfl (by kernel_rfl) (fun _ _ _ h => h) (Or.inl ⟨by rfl, ?_⟩) (by assumption) (fun h => by first | assumption | exact absurd (h : true = false) (by decide)) ?_
              rotate_left
              · intro w hSw; (try dsimp only at hSw); (try go_simp); (try with_reducible rfl)
              try simp only [Act.put, List.setIfInBounds_toArray, List.set_cons_zero, List.set_cons_succ]
              refine until_s0 2 (v := ?_) rfl (by kernel_rfl) (fun _ _ _ h => h) (Or.inl ⟨by rfl, ?_⟩) (by assumption) (fun h => by first | assumption | exact absurd (h : true = false) (by decide)) ?_
              rotate_left
              · intro w hSw; (try dsimp only at hSw); (try go_simp); (try with_reducible rfl)
              try simp only [Act.put, List.setIfInBounds_toArray, List.set_cons_zero, List.set_cons_succ]
              refine until_s0 4 (v := ?_) rfl (by kernel_rfl) (fun _ _ _ h => h) (Or.inl ⟨by rfl, ?_⟩) (by assumption) (fun h => by first | assumption | exact absurd (h : true = false) (by decide)) ?_
              rotate_left
              · intro w hSw; (try dsimp only at hSw); (try go_simp); (try with_reducible rfl)
              try simp only [Act.put, List.setIfInBounds_toArray, List.set_cons_zero, List.set_cons_succ]
              refine until_s0 5 (v := ?_) rfl (by kernel_rfl) (fun _ _ _ h => h) (Or.inl ⟨by rfl, ?_⟩) (by assumption) (fun h => by first | assumption | exact absurd (h : true = false) (by decide)) ?_
              rotate_left
              · intro w hSw; (try dsimp only at hSw); (try go_simp); (try with_reducible rfl)
              try simp only [Act.put, List.setIfInBounds_toArray, List.set_cons_zero, List.set_cons_succ]
              refine until_s0 7 (v := ?_) rfl (by kernel_rfl) (fun _ _ _ h => h) (Or.inl ⟨by rfl, ?_⟩) (by assumption) (fun h => by first | assumption | exact absurd (h : true = false) (by decide)) ?_
              rotate_left
              · intro w hSw; (try dsimp only at hSw); (try go_simp); (try with_reducible rfl)
              try simp only [Act.put, List.setIfInBounds_toArray, List.set_cons_zero, List.set_cons_succ]
              refine until_s0 8 (v := .agg (byteCells py).toArray) rfl (by kernel_rfl) (fun _ _ _ h => h) (Or.inl ⟨by rfl, fun w' hS => exec_load rfl rfl hS.2.2⟩) (by assumption) (fun h => by first | assumption | exact absurd (h : true = false) (by decide)) ?_
              simp only [Act.put, List.setIfInBounds_toArray, List.set_cons_zero, List.set_cons_succ]
              skip
              refine until_sole 3 rfl (by kernel_rfl) (by rfl) ?_
              intro K' hK
              go_wp2_with fail
              refine hK _ _ s0 (fun _ => trivial) ?_
              clear hK
              skip
              refine until_sole 6 rfl (by kernel_rfl) (by rfl) ?_
              intro K' hK
              go_simp
              go_at_call 36
              refine (c1 _ _ hP).mono ?_
              rintro _ w4 ⟨rfl, f4⟩
              have A0 := f4.keep A0 (by simp)
              have A2 := f4.keep A2 (by simp)
              have hP := hP.keep f4 (by simp)
              have hF := hF.trans f4
              go_wp2_with fail
              refine hK _ _ (mkS _ A0 A2) (fun _ => trivial) ?_
              clear hK c1 s0
              have s0 := mkS _ A0 A2
              clear mkS
              by_cases hXP : X px = py
              · rw [show (!decide (X px = py)) = false by rw [decide_eq_true hXP]; rfl] at hnq
                have HXP := Lib.hid hXP
                clear hXP
                refine until_s0 9 (v := .bool false) rfl (by kernel_rfl) (fun _ _ _ h => h) (Or.inl ⟨by rfl, fun w' hS => exec_neqRows rfl rfl rfl Tryd.eqGuardType63 (hnq w')⟩) (by assumption) (fun h => by first | assumption | exact absurd (h : true = false) (by decide)) ?_
                simp only [Act.put, List.setIfInBounds_toArray, List.set_cons_zero, List.set_cons_succ]
                refine until_done (by kernel_rfl) ?_ _
                go_wp2_with fail
                refine ⟨⟨i + 1, by omega, by simp, fun j p hj hp => ?_, A0, hP, hF⟩, by simp only [intOf]; omega⟩
                by_cases hji : j = i
                · subst hji
                  have := HPn.out.1
                  rw [hp] at this
                  cases this
                  have := HXP.out
                  rw [HPX.out.1, HPX.out.2] at this
                  exact this
                · exact HALL.out j p (by omega) hp
              · rw [show (!decide (X px = py)) = true by rw [decide_eq_false hXP]; rfl] at hnq
                have HXP := Lib.hid hXP
                clear hXP
                refine until_s0 9 (v := .bool true) rfl (by kernel_rfl) (fun _ _ _ h => h) (Or.inl ⟨by rfl, fun w' hS => exec_neqRows rfl rfl rfl Tryd.eqGuardType63 (hnq w')⟩) (by assumption) (fun h => by first | assumption | exact absurd (h : true = false) (by decide)) ?_
                simp only [Act.put, List.setIfInBounds_toArray, List.set_cons_zero, List.set_cons_succ]
                refine until_done (by kernel_rfl) ?_ _
                go_wp2_with fail
                go_ret2
                refine ⟨?_, hF⟩
                rw [HPn.out.2.2 (fun h => HXP.out (by rw [HPX.out.1, HPX.out.2]; exact h P (List.mem_of_getElem? (i := i) (by rw [List.getElem?_drop]; exact HPn.out.1))))]
                rfl
            · obtain rfl : i = d := by omega
              have hjoin := HRR.out.1 (fun p hp => by
                obtain ⟨j, hj, rfl⟩ := List.mem_iff_getElem.1 hp
                rw [List.length_drop] at hj
                rw [List.getElem_drop]
                exact HALL.out j _ (by have := HL.out.1; have := HRR.out.2.2.2.1; omega) (List.getElem?_eq_getElem _))
              have c0 := fun c' w' h => cA 0 c' w' h
              rw [show bt 0 = 0 from rfl] at c0
              have hal0 : (X 0).length = 32 := HRR.out.2.2.1 0
              have q0 : wr.cell? ⟨B, 0, none⟩ = some (.int .i64 k.1) := A0.cell 0
              generalize X 0 = X0 at c0 hal0 hjoin
              have HJ := Lib.hid hjoin
              clear cA hjoin
              obtain ⟨vs, hvs⟩ : ∃ vs : ByteArray, vs = ⟨X0.toArray⟩ := ⟨_, rfl⟩
              have hcw : ∀ w' g, At w' g 63 (byteCells X0) → (convert 55 9 (.slice (some ⟨g, 0, none⟩) 32 32)).run Tryd.prog w' = .ok (.string vs) w' := fun w' g h => by
                rw [hvs]; exact run_strB (P := Tryd.prog) (d := 9) Tryd.underlying55 Tryd.underlying5 Tryd.underlying9 w' g 0 32 63 X0 [] [] (by simpa using h) rfl 32 hal0.symm
              have hi9 : (Tryd.prog.info? 63).map (·.size) = some (byteCells X0).toArray.size := by rw [List.size_toArray, byteCells_length, hal0]; kernel_rfl
              have hol9 : (byteCells (zerosB 32)).toArray.size = (byteCells X0).toArray.size := by simp [byteCells_length, hal0, zerosB]
              have hal9 : (byteCells X0).toArray.all (·.oneCell') = true := all_oneCell_toArray (byteCells_one X0)
              have HV := Lib.hid hvs
              clear hvs hal0
              go_upto_region 13 with (first
                | (go_at_call 36; refine (c0 _ _ hP).mono ?_; clear c0; rintro e w5 ⟨rfl, f5⟩; have hF := hF.trans f5; have A9 := At.alloc_new w5 63 (byteCells (zerosB 32)).toArray)
                | (rw [lit32]; refine wpList_store_row rfl _ _ _ rfl _ _ rfl rfl _ _ A9.out hi9 hol9 hal9 ?_)
                | fail)
              have A9 := A9.setRow (byteCells X0).toArray
              rw [List.toList_toArray] at A9
              have hF := (hF.trans (Fr.alloc [] w5 (.cells (byteCells (zerosB 32)).toArray 63))).new (Fr.setRow [w5.heap.size] _ w5.heap.size (byteCells X0).toArray (.inl (by simp))) (by have := hF.size; simp; omega)
              obtain ⟨q, hq⟩ : ∃ q, q = w5.heap.size := ⟨_, rfl⟩
              rw [← hq] at A9 hF ⊢
              generalize ((w5.alloc (.cells (byteCells (zerosB 32)).toArray 63)).setRow q (byteCells X0).toArray) = W5 at A9 hF ⊢
              try simp only [Act.put]
              have hc9 := hcw _ _ A9
              clear hcw hq
              go_wp2_with fail
              go_ret2
              exact ⟨by rw [HJ.out, HV.out]; rfl, hF⟩
  · have b1 : (togE ps != 0) = true := by simpa using hE
    rw [join_bad hE]
    obtain ⟨E, hEd⟩ : ∃ E, E = togE ps := ⟨_, rfl⟩
    rw [← hEd] at b1 ⊢
    have cT : Calls Tryd.prog 35 #[.slice ad ps.length cap] w fun e w' => Fr [] w w' ∧ e = .returned (.tuple #[.slice none 0 0, kin0, .int .i64 E]) := cT.mono (by
      rintro e w' ⟨f, v, K, rfl, h1, _⟩
      obtain ⟨rfl, rfl⟩ := h1 hE
      exact ⟨f, by rw [hEd]⟩)
    clear hE hEd
    go_enter Tryd.func22, Tryd.ntmps22
    unfold kin0 at cT
    go_wp2_with (first
      | (go_at_call 35; refine cT.mono ?_; clear cT; rintro e w1 ⟨f1, rfl⟩; have A0 := At.alloc_new w1 69 #[.int .i64 0, .string ⟨#[]⟩])
      | refine wpList_store_row rfl _ _ _ rfl _ _ rfl rfl _ _ A0.out hi2 rfl (kin_one _ _) ?_
      | fail)
    go_ret2
    refine ⟨rfl, (f1.trans (Fr.alloc _ _ _)).new (Fr.setRow [w1.heap.size] _ w1.heap.size _ (.inl (by simp))) (by have := f1.size; simp; omega)⟩
end Go.Proofs.YtffhfmaphjjffaaDoor
