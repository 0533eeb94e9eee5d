/- Explain of the program. -/
import Derived.Test.YtffhfmaphjjffaaDoorJnExpP
import Derived.Test.YtffhfmaphjjffaaDoorUntil
namespace Go.Proofs.YtffhfmaphjjffaaDoor
open Go.RowKit Go.Lib Go.Joins Base Gf
set_option linter.unusedVariables false
set_option linter.unusedSimpArgs false

set_option maxRecDepth 100000 in
set_option maxHeartbeats 2000000 in
theorem times_any (R : List UInt8) (f : UInt8) (hR : R.length = 32) (w : World) :
    Calls Tryd.prog 40 #[.agg (byteCells R).toArray, .int .u8 (bt f)] w fun e w' => e = .returned (.agg (byteCells (timesR R f)).toArray) ∧ Fr [] w w' := by
  have cP := fun w => plus_any (zerosB 32) R f (by simp [zerosB]) hR w
  have hXl := timesR_len R f hR
  obtain ⟨X, hX⟩ : ∃ X, X = timesR R f := ⟨_, rfl⟩
  rw [show plusR (zerosB 32) R f = X from hX.symm] at cP
  rw [← hX] at hXl ⊢
  have hbR : (Tryd.prog.info? 63).map (·.size) = some (byteCells R).toArray.size := by rw [List.size_toArray, byteCells_length, hR]; kernel_rfl
  have hbX : (Tryd.prog.info? 63).map (·.size) = some (byteCells X).toArray.size := by rw [List.size_toArray, byteCells_length, hXl]; kernel_rfl
  have hol : (byteCells (zerosB 32)).toArray.size = (byteCells X).toArray.size := by simp [byteCells_length, hXl, zerosB]
  have hal : (byteCells X).toArray.all (·.oneCell') = true := all_oneCell_toArray (byteCells_one X)
  have A0 := (At.alloc_new w 63 (byteCells R).toArray).alloc (.cells (byteCells (zerosB 32)).toArray 63)
  have A1 := At.alloc_new2 w (.cells (byteCells R).toArray 63) 63 (byteCells (zerosB 32)).toArray
  have hF : Fr [] w ((w.alloc (.cells (byteCells R).toArray 63)).alloc (.cells (byteCells (zerosB 32)).toArray 63)) := (Fr.alloc _ _ _).trans (Fr.alloc _ _ _)
  rw [List.toList_toArray] at A0 A1
  have hsR : (byteCells R).toArray.size = 32 := by simp [byteCells_length, hR]
  have hqw : w.heap.size ≤ w.heap.size + 1 := by omega
  clear hX hXl hR
  go_enter Tryd.func40, Tryd.ntmps40
  go_upto_region 1 with fail
  rw [lit32]
  obtain ⟨p, hp⟩ : ∃ p, p = w.heap.size := ⟨_, rfl⟩
  generalize ((w.alloc (.cells (byteCells R).toArray 63)).alloc (.cells (byteCells (zerosB 32)).toArray 63)) = W at A0 A1 hF ⊢
  rw [← hp] at A0 A1 ⊢
  have hpw : w.heap.size ≤ p + 1 := by omega
  clear hp hqw hsR
  have mk1 : True := trivial
  go_wp2_with (first
    | refine wpList_load_row rfl _ _ rfl _ rfl _ _ _ _ A0.out Tryd.underlying63 rfl hbR ?_
    | (go_at_call 31; (try rw [lit32]); refine (cP _).mono ?_; clear cP; rintro e w5 ⟨rfl, f5⟩; have A1 := f5.keep A1 (by simp); have hF := hF.trans f5)
    | refine wpList_store_row rfl _ _ _ rfl _ _ rfl rfl _ _ A1.out hbX hol hal ?_
    | fail)
  have A1 := A1.setRow (byteCells X).toArray
  refine ⟨rfl, _, ?_, rfl, hF.new (S := [p + 1]) (Fr.setRow _ _ _ _ (.inl (by simp))) (by simp; omega)⟩
  exact results_cell_row (fn := Tryd.f40) (p := 4) (ty := 63) (by rfl) _ _ (p + 1) 63 (byteCells X).toArray (0, 0) _ rfl A1.out Tryd.underlying63 rfl hbX
theorem ba_list0 (b : ByteArray) : (⟨b.data.toList.toArray⟩ : ByteArray) = b := by simp
set_option maxRecDepth 100000 in
set_option maxHeartbeats 8000000 in
theorem explain_any (master : ByteArray) (ps : List ByteArray) (ad : Option Addr) (cap : Nat) (hn : ps.length ≤ 4194304) (w : World) (hI : First w) (hR : Roots w) (hT : Texts w ad ps) :
    Calls Tryd.prog 25 #[.string master, .slice ad ps.length cap] w fun e w' => e = .returned (.tuple #[.string ⟨(explV master.data.toList ps).1.toArray⟩, .int .i64 (explV master.data.toList ps).2]) ∧ Fr [] w w' := by
  have hi2 : (Tryd.prog.info? 69).map (·.size) = some 2 := by kernel_rfl
  have cT := together_any ps ad cap hn w hI hR hT
  have hml : master.data.toList.length = master.size := by simp
  by_cases hm : master.size = 32
  · have b0 : ((master.size : Int) != 32) = false := by simp [hm]
    have hm32 : master.data.toList.length = 32 := by rw [hml]; exact hm
    by_cases hE : togE ps = 0
    · obtain ⟨z1, z2, z3⟩ := togE_zero hE
      have h32 : ∀ s ∈ ps, (ptO s).2.length = 32 := fun s hs => valD_len _ (z1 s hs)
      obtain ⟨n, hnd⟩ : ∃ n, n = ps.length := ⟨_, rfl⟩
      obtain ⟨l, hL⟩ : ∃ l, l = ps.map ptO := ⟨_, rfl⟩
      have hll : l.length = n := by rw [hL, hnd]; simp
      have hl32 : ∀ p ∈ l, p.2.length = 32 := fun p hp => by
        rw [hL] at hp
        obtain ⟨t, ht, rfl⟩ := List.mem_map.1 hp
        exact h32 t ht
      obtain ⟨R, hRd⟩ : ∃ R, R = explV master.data.toList ps := ⟨_, rfl⟩
      obtain ⟨T, hTd⟩ : ∃ T, T = explN n master.data.toList l := ⟨_, rfl⟩
      have cT : Calls Tryd.prog 35 #[.slice ad ps.length cap] w fun e w' => Fr [] w w' ∧ ∃ (A : Option Addr) (c : Nat) (k : Nat × ByteArray), n ≤ c ∧ c ≤ maxLen ∧ e = .returned (.tuple #[.slice A n c, .agg (kinCells k).toArray, .int .i64 0]) ∧ k.1 ≤ 16 ∧ (0 < n → n + 1 ≠ k.1 → R = ([], 262)) ∧ ((n = 0 ∨ n + 1 = k.1) → R = (T, 0)) ∧ (0 < n → ∃ g, A = some ⟨g, 0, none⟩ ∧ WPts w' g 0 l ∧ w.heap.size ≤ g) := cT.mono (by
        rintro e w' ⟨f, v, K, rfl, _, h1⟩
        obtain ⟨h2, h3, h4⟩ := h1 hE
        refine ⟨f, ?_⟩
        rw [hE]
        by_cases h0 : ps = []
        · have hK := h3 h0
          subst hK
          have hn0 : n = 0 := by rw [hnd, h0]; rfl
          have hR0 : R = (T, 0) := by rw [hRd, expl_none hm32 hE h0, hTd, hn0]; rfl
          rw [← hnd, hn0] at h2
          rw [hn0]
          rcases ownsRow_forms h2 with ⟨rfl, _⟩ | ⟨g, c, rfl⟩
          · exact ⟨_, _, (0, ⟨#[]⟩), by omega, by simp [maxLen], rfl, by simp, fun h => by omega, fun _ => hR0, fun h => by omega⟩
          · exact ⟨_, _, (0, ⟨#[]⟩), by omega, (own_cap h2).2, rfl, by simp, fun h => by omega, fun _ => hR0, fun h => by omega⟩
        · obtain ⟨s, hs⟩ : ∃ s, ps[0]? = some s := ⟨_, List.getElem?_eq_getElem (by cases ps <;> simp_all)⟩
          have hl0 : 0 < ps.length := (List.getElem?_eq_some_iff.1 hs).1
          have hK := h4 s hs
          subst hK
          obtain ⟨g, c, rfl⟩ := ownsRow_form h2 hl0
          rw [hnd]
          refine ⟨_, c, kinO s, (own_cap h2).1, (own_cap h2).2, rfl, ?_, fun _ hk => ?_, fun hk => ?_, fun _ => ⟨g, rfl, ?_, (h2.lt g rfl).1⟩⟩
          · exact (isE_parts _ (z1 s (List.mem_of_getElem? hs))).2.2.2.2.2.2
          · rw [hRd, expl_few hm32 hE s hs hk]
          · rw [hRd, expl_ok hm32 hE s hs (by omega), hTd, hL, hnd]
          · rw [hL]; exact wpts_own h2 h32)
      rw [← hRd]
      rw [← hnd] at cT ⊢
      have hn1 : n ≤ 4194304 := by omega
      obtain ⟨ml, hmld⟩ : ∃ ml, ml = master.data.toList := ⟨_, rfl⟩
      have cRw := fun w => rows_any master 1 (by omega) (by omega) w
      rw [← hmld] at hm32 hTd cRw
      have HM := Lib.hid (And.intro hm32 (And.intro hll (And.intro hl32 hTd)))
      have hsr : ∀ X : List UInt8, X.length = 32 → (Tryd.prog.info? 63).map (·.size) = some (byteCells X).toArray.size := fun X h => by
        rw [List.size_toArray, byteCells_length, h]; kernel_rfl
      have hmr := hsr ml hm32
      have hol1 : (byteCells (zerosB 32)).toArray.size = (byteCells ml).toArray.size := by simp [byteCells_length, hm32, zerosB]
      have hal : ∀ X : List UInt8, (byteCells X).toArray.all (·.oneCell') = true := fun X => all_oneCell_toArray (byteCells_one X)
      have HAL := Lib.hid (And.intro hsr hal)
      have halm := hal ml
      clear hE z1 z2 z3 h32 hnd hL hll hl32 hRd hTd hm hm32 hml hmld hn hT hsr hal
      go_enter Tryd.func25, Tryd.ntmps25
      have hol : ∀ k : Nat × ByteArray, #[Value.int .i64 0, .string ⟨#[]⟩].size = (kinCells k).toArray.size := fun k => rfl
      go_upto_region 4 with (first
        | (go_at_call 35; refine cT.mono ?_; clear cT; rintro e w1 ⟨f1, A, c, k, hc1, hc2, rfl, hk16, hR1, hR2, hW⟩; have A0 := At.alloc_new w1 69 #[.int .i64 0, .string ⟨#[]⟩])
        | refine wpList_store_row rfl _ _ _ rfl _ _ rfl rfl _ _ A0.out hi2 (hol k) (kinC_one k) ?_
        | fail)
      have A0 := A0.setRow (kinCells k).toArray
      obtain ⟨B, hBd⟩ : ∃ B, B = w1.heap.size := ⟨_, rfl⟩
      rw [← hBd] at A0 ⊢
      have hBw : w.heap.size ≤ B := by have := f1.size; omega
      have f2 : Fr [B] w1 ((w1.alloc (.cells #[.int .i64 0, .string ⟨#[]⟩] 69)).setRow B (kinCells k).toArray) := (Fr.alloc _ _ _).trans (Fr.setRow _ _ B _ (.inl (by simp)))
      have hW : 0 < n → ∃ g, A = some ⟨g, 0, none⟩ ∧ WPts ((w1.alloc (.cells #[.int .i64 0, .string ⟨#[]⟩] 69)).setRow B (kinCells k).toArray) g 0 l ∧ w.heap.size ≤ g := fun h => by
        obtain ⟨g, hA, hw, hg⟩ := hW h
        exact ⟨g, hA, hw.keep f2 (by have := hw.1.1; simp; omega), hg⟩
      have hF := f1.new f2 (by simp; omega)
      clear f1 f2 hBd
      generalize ((w1.alloc (.cells #[.int .i64 0, .string ⟨#[]⟩] 69)).setRow B (kinCells k).toArray) = W at A0 hW hF ⊢
      try simp only [Act.put]
      have A0 : At W B 69 (kinCells k) := A0
      have q0 : W.cell? ⟨B, 0, none⟩ = some (.int .i64 k.1) := A0.cell 0
      have wk : IntKind.i64.wrap ((k.1 : Int) - 1) = (k.1 : Int) - 1 := IntWalk.i64_in _ (by omega)
      have HR := Lib.hid (And.intro hR1 (And.intro hR2 hW))
      clear hR1 hR2 hW
      by_cases h1 : 0 < n ∧ n + 1 ≠ k.1
      · have l1 : (0 : Int) < n := by omega
        have l2 : ((n : Int) != (k.1 : Int) - 1) = true := by simp; omega
        have hRR := HR.out.1 h1.1 h1.2
        have HRR := Lib.hid hRR
        clear h1 hRR
        go_wp2_with fail
        go_ret2
        exact ⟨by rw [HRR.out]; rfl, hF⟩
      · have hRR := HR.out.2.1 (by omega)
        have HRR := Lib.hid hRR
        have hn16 : n ≤ 16 := by omega
        by_cases h2 : n = 0
        · have l1 : ¬ (0 : Int) < n := by omega
          have HZ := Lib.hid h2
          clear h2 hRR
          go_upto_region 8 with fail
          clear l1 h1 q0 wk
          go_upto_region 10 with (first
            | (go_at_call 30; refine (cRw _).mono ?_; clear cRw; rintro e w2 ⟨g0, rfl, hg0, AR, f2⟩; have A9 := At.alloc_new w2 63 (byteCells (zerosB 32)).toArray)
            | refine wpList_load_row rfl _ _ rfl _ rfl _ _ _ _ AR.out Tryd.underlying63 rfl hmr ?_
            | (rw [lit32]; refine wpList_store_row rfl _ _ _ rfl _ _ rfl rfl _ _ A9.out hmr hol1 halm ?_)
            | fail)
          have A9 := A9.setRow (byteCells ml).toArray
          rw [List.toList_toArray] at A9
          have hF2 := hF.trans f2
          obtain ⟨q, hq⟩ : ∃ q, q = w2.heap.size := ⟨_, rfl⟩
          rw [← hq] at A9 ⊢
          have hqw : w.heap.size ≤ q := by have := hF2.size; omega
          have f3 : Fr [q] w2 ((w2.alloc (.cells (byteCells (zerosB 32)).toArray 63)).setRow q (byteCells ml).toArray) := (Fr.alloc _ _ _).trans (Fr.setRow _ _ q _ (.inl (by simp)))
          have hF3 := hF2.new f3 (by simp; omega)
          have hW3 : 0 < n → ∃ g, A = some ⟨g, 0, none⟩ ∧ WPts ((w2.alloc (.cells (byteCells (zerosB 32)).toArray 63)).setRow q (byteCells ml).toArray) g 0 l ∧ w.heap.size ≤ g ∧ g ≠ q := fun h => by
            obtain ⟨g, hA, hw, hg⟩ := HR.out.2.2 h
            have hlt := hw.1.1
            have := f2.size
            exact ⟨g, hA, (hw.keep f2 (by simp)).keep f3 (by simp; omega), hg, by omega⟩
          have HM2 := HM.out
          clear hF hF2 hq AR hg0 f2 f3 A0 hmr hol1 halm hi2
          generalize ((w2.alloc (.cells (byteCells (zerosB 32)).toArray 63)).setRow q (byteCells ml).toArray) = W3 at A9 hF3 hW3 ⊢
          try simp only [Act.put]
          have rel0 : ∃ (m c' : Nat) (A' : Option Addr) (L : List Pt) (low : List UInt8) (C : ByteArray), Value.slice A n c = .slice A' m c' ∧ m ≤ c' ∧ c' ≤ maxLen ∧ L.length = m ∧ m ≤ n ∧ (∀ p ∈ L, p.2.length = 32) ∧ low.length = 32 ∧ Value.string ⟨#[]⟩ = .string C ∧ C.size + 32 * m = 32 * n ∧ C.data.toList ++ explN m low L = T ∧ (0 < m → ∃ g o, A' = some ⟨g, o, none⟩ ∧ WPts W3 g o L ∧ w.heap.size ≤ g ∧ g ≠ q) ∧ At W3 q 63 (byteCells low) ∧ Fr [] w W3 :=
            ⟨n, c, A, l, ml, ⟨#[]⟩, rfl, hc1, hc2, HM2.2.1, Nat.le_refl _, HM2.2.2.1, HM2.1, rfl, by show 0 + 32 * n = 32 * n; omega, by rw [HM2.2.2.2]; rfl, fun h => by obtain ⟨g, h1, h2, h3, h4⟩ := hW3 h; exact ⟨g, 0, h1, h2, h3, h4⟩, A9, hF3⟩
          clear A9 hF3 hW3 HM2
          go_loopw [6, 9, 11, 12] (fun v6 v9 _ _ wr => ∃ (m c' : Nat) (A' : Option Addr) (L : List Pt) (low : List UInt8) (C : ByteArray), v6 = .slice A' m c' ∧ m ≤ c' ∧ c' ≤ maxLen ∧ L.length = m ∧ m ≤ n ∧ (∀ p ∈ L, p.2.length = 32) ∧ low.length = 32 ∧ v9 = .string C ∧ C.size + 32 * m = 32 * n ∧ C.data.toList ++ explN m low L = T ∧ (0 < m → ∃ g o, A' = some ⟨g, o, none⟩ ∧ WPts wr g o L ∧ w.heap.size ≤ g ∧ g ≠ q) ∧ At wr q 63 (byteCells low) ∧ Fr [] w wr) (fun v _ _ _ _ => slN v)
          case atStart => exact rel0
          case round =>
            clear rel0
            obtain ⟨m, c', A', L, low, C, rfl, hmc, hcm, hLm, hmn, hL32, hlow, rfl, hCs, hTT, hW, A9, hF⟩ := hrel
            by_cases hm0 : 0 < m
            · have := HZ.out; omega
            · obtain rfl : m = 0 := by omega
              have hCT : C.data.toList = T := by rw [← hTT]; simp [explN]
              have HC := Lib.hid hCT
              clear hCT hTT hW
              go_wp2_with fail
              go_ret2
              exact ⟨by rw [HRR.out, ← HC.out, ba_list0]; rfl, hF⟩
        · have l1 : (0 : Int) < n := by omega
          have l2 : ((n : Int) != (k.1 : Int) - 1) = false := by
            have : (n : Int) = (k.1 : Int) - 1 := by omega
            rw [this]; simp
          clear h2 hRR
          go_upto_region 8 with fail
          clear l2
          clear l1 h1 q0 wk
          go_upto_region 10 with (first
            | (go_at_call 30; refine (cRw _).mono ?_; clear cRw; rintro e w2 ⟨g0, rfl, hg0, AR, f2⟩; have A9 := At.alloc_new w2 63 (byteCells (zerosB 32)).toArray)
            | refine wpList_load_row rfl _ _ rfl _ rfl _ _ _ _ AR.out Tryd.underlying63 rfl hmr ?_
            | (rw [lit32]; refine wpList_store_row rfl _ _ _ rfl _ _ rfl rfl _ _ A9.out hmr hol1 halm ?_)
            | fail)
          have A9 := A9.setRow (byteCells ml).toArray
          rw [List.toList_toArray] at A9
          have hF2 := hF.trans f2
          obtain ⟨q, hq⟩ : ∃ q, q = w2.heap.size := ⟨_, rfl⟩
          rw [← hq] at A9 ⊢
          have hqw : w.heap.size ≤ q := by have := hF2.size; omega
          have f3 : Fr [q] w2 ((w2.alloc (.cells (byteCells (zerosB 32)).toArray 63)).setRow q (byteCells ml).toArray) := (Fr.alloc _ _ _).trans (Fr.setRow _ _ q _ (.inl (by simp)))
          have hF3 := hF2.new f3 (by simp; omega)
          have hW3 : 0 < n → ∃ g, A = some ⟨g, 0, none⟩ ∧ WPts ((w2.alloc (.cells (byteCells (zerosB 32)).toArray 63)).setRow q (byteCells ml).toArray) g 0 l ∧ w.heap.size ≤ g ∧ g ≠ q := fun h => by
            obtain ⟨g, hA, hw, hg⟩ := HR.out.2.2 h
            have hlt := hw.1.1
            have := f2.size
            exact ⟨g, hA, (hw.keep f2 (by simp)).keep f3 (by simp; omega), hg, by omega⟩
          have HM2 := HM.out
          clear hF hF2 hq AR hg0 f2 f3 A0 hmr hol1 halm hi2
          generalize ((w2.alloc (.cells (byteCells (zerosB 32)).toArray 63)).setRow q (byteCells ml).toArray) = W3 at A9 hF3 hW3 ⊢
          try simp only [Act.put]
          have rel0 : ∃ (m c' : Nat) (A' : Option Addr) (L : List Pt) (low : List UInt8) (C : ByteArray), Value.slice A n c = .slice A' m c' ∧ m ≤ c' ∧ c' ≤ maxLen ∧ L.length = m ∧ m ≤ n ∧ (∀ p ∈ L, p.2.length = 32) ∧ low.length = 32 ∧ Value.string ⟨#[]⟩ = .string C ∧ C.size + 32 * m = 32 * n ∧ C.data.toList ++ explN m low L = T ∧ (0 < m → ∃ g o, A' = some ⟨g, o, none⟩ ∧ WPts W3 g o L ∧ w.heap.size ≤ g ∧ g ≠ q) ∧ At W3 q 63 (byteCells low) ∧ Fr [] w W3 :=
            ⟨n, c, A, l, ml, ⟨#[]⟩, rfl, hc1, hc2, HM2.2.1, Nat.le_refl _, HM2.2.2.1, HM2.1, rfl, by show 0 + 32 * n = 32 * n; omega, by rw [HM2.2.2.2]; rfl, fun h => by obtain ⟨g, h1, h2, h3, h4⟩ := hW3 h; exact ⟨g, 0, h1, h2, h3, h4⟩, A9, hF3⟩
          clear A9 hF3 hW3 HM2
          go_loopw [6, 9, 11, 12] (fun v6 v9 _ _ wr => ∃ (m c' : Nat) (A' : Option Addr) (L : List Pt) (low : List UInt8) (C : ByteArray), v6 = .slice A' m c' ∧ m ≤ c' ∧ c' ≤ maxLen ∧ L.length = m ∧ m ≤ n ∧ (∀ p ∈ L, p.2.length = 32) ∧ low.length = 32 ∧ v9 = .string C ∧ C.size + 32 * m = 32 * n ∧ C.data.toList ++ explN m low L = T ∧ (0 < m → ∃ g o, A' = some ⟨g, o, none⟩ ∧ WPts wr g o L ∧ w.heap.size ≤ g ∧ g ≠ q) ∧ At wr q 63 (byteCells low) ∧ Fr [] w wr) (fun v _ _ _ _ => slN v)
          case atStart => exact rel0
          case round =>
            clear rel0
            obtain ⟨m, c', A', L, low, C, rfl, hmc, hcm, hLm, hmn, hL32, hlow, rfl, hCs, hTT, hW, A9, hF⟩ := hrel
            by_cases hm0 : 0 < m
            · have l1 : (0 : Int) < m := by omega
              have hWf := hW
              clear hW
              obtain ⟨g, o, rfl, hW, hgw, hgq⟩ := hWf hm0
              clear hWf
              have HT := Lib.hid (And.intro hLm (And.intro hL32 (And.intro hlow (And.intro hTT hCs))))
              clear hLm hL32 hTT hlow
              go_upto_region 12 with fail
              go_loopw [11, 12, 47] (fun _ _ v47 wr => ∃ i : Nat, i ≤ m ∧ v47 = .int .i64 i ∧ WPts wr g o ((stepPts low L).take i ++ L.drop i) ∧ At wr q 63 (byteCells low) ∧ Fr [] w wr) (fun _ _ v _ => m - (intOf v).toNat)
              case atStart => exact ⟨0, by omega, rfl, by simpa using hW, A9, hF⟩
              case round =>
                clear hW A9 hF
                obtain ⟨i, hi, rfl, hW, A9, hF⟩ := hrel
                by_cases hl : i < m
                · have l2 : (i : Int) < m := by omega
                  obtain ⟨P, hPn⟩ : ∃ P, L[i]? = some P := ⟨_, List.getElem?_eq_getElem (by have := HT.out.1; omega)⟩
                  have hPl : P.2.length = 32 := HT.out.2.1 P (List.mem_of_getElem? hPn)
                  have hlow := HT.out.2.2.1
                  have hcur := step_cur low L i (by have := HT.out.1; omega)
                  have hld : wr.rangeAt g (o + i * 33) (ptCells P) := hW.1.2 i P (by rw [hcur]; exact hPn)
                  have hi3 : (Tryd.prog.info? 66).map (·.size) = some (ptCells P).length := by rw [ptCells_len P hPl]; kernel_rfl
                  have hi3' : (Tryd.prog.info? 66).map (·.size) = some (ptCells P).toArray.size := by rw [List.size_toArray]; exact hi3
                  have hold : (List.replicate 33 (Value.int .u8 0)).toArray.size = (ptCells P).toArray.size := by rw [List.size_toArray, List.size_toArray, ptCells_len P hPl]; rfl
                  have A2 := At.alloc_new wr 66 (List.replicate 33 (Value.int .u8 0)).toArray
                  obtain ⟨r, hr⟩ : ∃ r, r = wr.heap.size := ⟨_, rfl⟩
                  rw [← hr] at A2
                  have hrw : w.heap.size ≤ r := by have := hF.size; omega
                  have hqr : q ≠ r := by have := A9.lt; omega
                  have hgr : g ≠ r := by have := hW.1.1; omega
                  have hset := step_prefix low L i P hPn
                  have hall := step_all low L i hlow HT.out.2.1
                  have hthere := hW.there1 i (by have := HT.out.1; simp [stepPts_len]; omega)
                  have HP := Lib.hid (And.intro hPn (And.intro hPl (And.intro hset (And.intro hall hcur))))
                  clear hPn hPl hset hall hlow hcur hthere
                  go_upto_region 14 with (first
                    | refine wpList_load_mid rfl _ _ rfl g (o + i * 33) rfl (ptCells P) _ hld Tryd.underlying66 rfl hi3 ?_
                    | (rw [lit33, ← hr]; refine wpList_store_row rfl _ _ _ rfl _ _ rfl rfl _ _ A2.out hi3' hold (ptCells_one _) ?_)
                    | fail)
                  have A2 := A2.setRow (ptCells P).toArray
                  rw [List.toList_toArray] at A2
                  have f6 : Fr [r] wr ((wr.alloc (.cells (List.replicate 33 (Value.int .u8 0)).toArray 66)).setRow r (ptCells P).toArray) := (Fr.alloc _ _ _).trans (Fr.setRow _ _ r _ (.inl (by simp)))
                  have A9 := f6.keep A9 (by simp; omega)
                  have hW := hW.keep f6 (by simp; omega)
                  have hF := hF.new f6 (by simp; omega)
                  clear f6 hr hld hold
                  generalize (wr.alloc (.cells (List.replicate 33 (Value.int .u8 0)).toArray 66)).setRow r (ptCells P).toArray = W2 at A9 A2 hW hF ⊢
                  try simp only [Act.put]
                  have hPl := HP.out.2.1
                  have hlow := HT.out.2.2.1
                  have hmid : ∀ w', At w' r 66 (ptCells P) → w'.rangeAt r 1 (byteCells P.2) := fun w' h j v hv => by
                    rw [h.cell, ← hv, Nat.add_comm]; rfl
                  have hi5 : (Tryd.prog.info? 63).map (·.size) = some (byteCells P.2).length := by rw [byteCells_length, hPl]; kernel_rfl
                  have ldR : ∀ w', At w' r 66 (ptCells P) → (loadVar 63 ⟨r, 1, none⟩).run Tryd.prog w' = .ok (.agg (byteCells P.2).toArray) w' := fun w' h => run_loadVar_mid (P := Tryd.prog) w' r 1 63 (byteCells P.2) _ (hmid w' h) Tryd.underlying63 rfl hi5
                  have hi6 := HAL.out.1 low hlow
                  have ldL : ∀ w', At w' q 63 (byteCells low) → (loadVar 63 ⟨q, 0, none⟩).run Tryd.prog w' = .ok (.agg (byteCells low).toArray) w' := fun w' h => run_loadVar_row w' q 63 63 (byteCells low).toArray _ _ h.out Tryd.underlying63 rfl hi6
                  obtain ⟨px, hpx⟩ : ∃ px, px = P.1 := ⟨_, rfl⟩
                  obtain ⟨py, hpy⟩ : ∃ py, py = P.2 := ⟨_, rfl⟩
                  rw [← hpy] at ldR
                  have m1 := fun w => plus_any py low 1 (by rw [hpy]; exact hPl) hlow w
                  rw [show bt 1 = 1 from rfl] at m1
                  have m2 := fun w => inv_any px w
                  have m3 := fun w => times_any (plusR py low 1) (ginv px) (by rw [plusR_len _ _ _ (by rw [hpy]; omega), hpy]; exact hPl) w
                  obtain ⟨y, hy⟩ : ∃ y, y = timesR (plusR py low 1) (ginv px) := ⟨_, rfl⟩
                  have hyl : y.length = 32 := by rw [hy, timesR_len _ _ (by rw [plusR_len _ _ _ (by rw [hpy]; omega), hpy]; exact hPl)]
                  have hys : y = (stepPt low P).2 := by rw [hy, hpx, hpy]; rfl
                  rw [← hy] at m3
                  have hi7 := HAL.out.1 y hyl
                  have hi8 := HAL.out.2 y
                  have HPX := Lib.hid (And.intro hpx (And.intro hpy (And.intro hys hyl)))
                  have mkS : ∀ w', At w' r 66 (ptCells P) → At w' q 63 (byteCells low) → w'.cell? ⟨r, 0, none⟩ = some (.int .u8 (bt px)) ∧ (loadVar 63 ⟨r, 1, none⟩).run Tryd.prog w' = .ok (.agg (byteCells py).toArray) w' ∧ (loadVar 63 ⟨q, 0, none⟩).run Tryd.prog w' = .ok (.agg (byteCells low).toArray) w' := fun w' h1 h2 => ⟨by rw [h1.cell 0, hpx]; rfl, ldR w' h1, ldL w' h2⟩
                  clear hpx hpy ldR ldL hmid hi5 hi6 hi3 hi3' hPl hy hys hyl
                  refine wp_region_until (fun w' => w'.cell? ⟨r, 0, none⟩ = some (.int .u8 (bt px)) ∧ (loadVar 63 ⟨r, 1, none⟩).run Tryd.prog w' = .ok (.agg (byteCells py).toArray) w' ∧ (loadVar 63 ⟨q, 0, none⟩).run Tryd.prog w' = .ok (.agg (byteCells low).toArray) w') (fun _ => True) 1000 (by rfl) ?_
                  have hT : True := trivial
                  have A9 := A9.drew
                  have A2 := A2.drew
                  have hW := hW.keep (Fr.drew [] _) (by simp)
                  have hF := hF.trans (Fr.drew [] _)
                  generalize W2.drew = W4 at A9 A2 hW hF ⊢
                  have s0 := mkS _ A2 A9
                  refine until_s0 2 (v := ?_) rfl (by kernel_rfl) (fun _ _ _ h => h) (Or.inl ⟨by rfl, ?_⟩) (by assumption) (fun h => by first | assumption | exact absurd (h : true = false) (by decide)) ?_
                  rotate_left
                  · intro w hSw; (try dsimp only at hSw); (try go_simp); (try with_reducible rfl)
                  try simp only [Act.put, List.setIfInBounds_toArray, List.set_cons_zero, List.set_cons_succ]
                  refine until_s0 3 (v := .agg (byteCells py).toArray) rfl (by kernel_rfl) (fun _ _ _ h => h) (Or.inl ⟨by rfl, fun w' hS => exec_load rfl rfl hS.2.1⟩) (by assumption) (fun h => by first | assumption | exact absurd (h : true = false) (by decide)) ?_
                  simp only [Act.put, List.setIfInBounds_toArray, List.set_cons_zero, List.set_cons_succ]
                  refine until_s0 4 (v := .agg (byteCells low).toArray) rfl (by kernel_rfl) (fun _ _ _ h => h) (Or.inl ⟨by rfl, fun w' hS => exec_load rfl rfl hS.2.2⟩) (by assumption) (fun h => by first | assumption | exact absurd (h : true = false) (by decide)) ?_
                  simp only [Act.put, List.setIfInBounds_toArray, List.set_cons_zero, List.set_cons_succ]
                  refine until_s0 0 (v := ?_) rfl (by kernel_rfl) (fun _ _ _ h => h) (Or.inl ⟨by rfl, ?_⟩) (by assumption) (fun h => by first | assumption | exact absurd (h : true = false) (by decide)) ?_
                  rotate_left
                  · intro w hSw; (try dsimp only at hSw); (try go_simp); (try with_reducible rfl)
                  try simp only [Act.put, List.setIfInBounds_toArray, List.set_cons_zero, List.set_cons_succ]
                  refine until_s0 1 (v := ?_) rfl (by kernel_rfl) (fun _ _ _ h => h) (Or.inl ⟨by rfl, ?_⟩) (by assumption) (fun h => by first | assumption | exact absurd (h : true = false) (by decide)) ?_
                  rotate_left
                  · intro w hSw; (try dsimp only at hSw); (try go_simp); (try with_reducible rfl)
                  try simp only [Act.put, List.setIfInBounds_toArray, List.set_cons_zero, List.set_cons_succ]
                  refine until_s0 6 (v := ?_) rfl (by kernel_rfl) (fun _ _ _ h => h) (Or.inl ⟨by rfl, ?_⟩) (by assumption) (fun h => by first | assumption | exact absurd (h : true = false) (by decide)) ?_
                  rotate_left
                  · intro w hSw; (try dsimp only at hSw); (try go_simp); (try with_reducible rfl)
                  try simp only [Act.put, List.setIfInBounds_toArray, List.set_cons_zero, List.set_cons_succ]
                  refine until_s0 7 (v := ?_) rfl (by kernel_rfl) (fun _ _ _ h => h) (Or.inl ⟨by rfl, ?_⟩) (by assumption) (fun h => by first | assumption | exact absurd (h : true = false) (by decide)) ?_
                  rotate_left
                  · intro w hSw; (try dsimp only at hSw); (try go_simp); (try with_reducible rfl)
                  try simp only [Act.put, List.setIfInBounds_toArray, List.set_cons_zero, List.set_cons_succ]
                  refine until_sole 5 rfl (by kernel_rfl) (by rfl) ?_
                  intro K' hK
                  go_simp
                  go_at_call 31
                  refine (m1 _).mono ?_
                  rintro _ w5 ⟨rfl, f5⟩
                  have A9 := f5.keep A9 (by simp)
                  have A2 := f5.keep A2 (by simp)
                  have hW := hW.keep f5 (by simp)
                  have hF := hF.trans f5
                  go_wp2_with fail
                  refine hK _ _ (mkS _ A2 A9) (fun _ => trivial) ?_
                  clear hK m1 s0 f5
                  have s0 := mkS _ A2 A9
                  refine until_sole 8 rfl (by kernel_rfl) (by rfl) ?_
                  intro K' hK
                  go_simp
                  go_at_call 41
                  refine (m2 _).mono ?_
                  rintro _ w6 ⟨rfl, rfl⟩
                  go_wp2_with fail
                  refine hK _ _ s0 (fun _ => trivial) ?_
                  clear hK m2
                  refine until_sole 9 rfl (by kernel_rfl) (by rfl) ?_
                  intro K' hK
                  go_simp
                  go_at_call 40
                  refine (m3 _).mono ?_
                  rintro _ w7 ⟨rfl, f7⟩
                  have A9 := f7.keep A9 (by simp)
                  have A2 := f7.keep A2 (by simp)
                  have hW := hW.keep f7 (by simp)
                  have hF := hF.trans f7
                  go_wp2_with fail
                  refine hK _ _ (mkS _ A2 A9) (fun _ => trivial) ?_
                  clear hK m3 s0 f7
                  have s0 := mkS _ A2 A9
                  refine until_s0 10 (v := ?_) rfl (by kernel_rfl) (fun _ _ _ h => h) (Or.inl ⟨by rfl, ?_⟩) (by assumption) (fun h => by first | assumption | exact absurd (h : true = false) (by decide)) ?_
                  rotate_left
                  · intro w hSw; (try dsimp only at hSw); (try go_simp); (try with_reducible rfl)
                  try simp only [Act.put, List.setIfInBounds_toArray, List.set_cons_zero, List.set_cons_succ]
                  refine until_s0 11 (v := ?_) rfl (by kernel_rfl) (fun _ _ _ h => h) (Or.inl ⟨by rfl, ?_⟩) (by assumption) (fun h => by first | assumption | exact absurd (h : true = false) (by decide)) ?_
                  rotate_left
                  · intro w hSw; (try dsimp only at hSw); (try go_simp); (try with_reducible rfl)
                  try simp only [Act.put, List.setIfInBounds_toArray, List.set_cons_zero, List.set_cons_succ]
                  refine until_sole 12 rfl (by kernel_rfl) (by rfl) ?_
                  intro K' hK
                  have hthere := hW.there1 i (by have := HT.out.1; simp [stepPts_len]; omega)
                  have hbs : (byteCells y).toArray.size = 32 := by simp [byteCells_length, HPX.out.2.2.2]
                  refine wp_store_mid 63 _ _ rfl g (o + i * 33 + 1) (byteCells y).toArray rfl rfl (by rw [hbs]; exact hthere) hi7 hi8 ?_
                  simp only [List.toList_toArray]
                  have f8 := Fr.setCells1 g (byteCells y) (o + i * 33 + 1) w7
                  have hW := hW.set HP.out.2.2.2.1 i P (by rw [HP.out.2.2.2.2]; exact HP.out.1) y HPX.out.2.2.2
                  rw [HPX.out.2.2.1, HP.out.2.2.1, ← HPX.out.2.2.1] at hW
                  have A9 := f8.keep A9 (by simp; omega)
                  have A2 := f8.keep A2 (by simp; omega)
                  have hF := hF.new f8 (by simp; omega)
                  refine hK _ _ (mkS _ A2 A9) (fun _ => trivial) ?_
                  clear hK s0 f8 mkS hthere hbs
                  generalize w7.setCells g (o + i * 33 + 1) (byteCells y) = W8 at hW A9 A2 hF ⊢
                  skip
                  refine until_done (by kernel_rfl) ?_ _
                  go_wp2_with fail
                  exact ⟨⟨i + 1, by omega, by simp, hW, A9, hF⟩, by simp only [intOf]; omega⟩
                · obtain rfl : i = m := by omega
                  obtain ⟨hLm, hL32, hlow, hTT, hCs⟩ := HT.out
                  have hSl : (stepPts low L).length = i := by rw [stepPts_len, hLm]
                  have hall := stepPts_all low L hlow hL32
                  rw [List.take_of_length_le (by omega), List.drop_of_length_le (by omega), List.append_nil] at hW
                  obtain ⟨S, hS⟩ : ∃ S, S = stepPts low L := ⟨_, rfl⟩
                  rw [← hS] at hW hSl hall
                  have cA := at_any S hall (by omega) g o c' 0 wr hW.1
                  rw [hSl, show bt 0 = 0 from rfl] at cA
                  have hal0 := atR_len S 0 hall
                  have hstep : explN i low L = atR S 0 ++ explN (i - 1) (atR S 0) S.tail := by
                    obtain ⟨j, rfl⟩ : ∃ j, i = j + 1 := ⟨i - 1, by omega⟩
                    rw [explN, ← hS]; rfl
                  obtain ⟨X, hX⟩ : ∃ X, X = atR S 0 := ⟨_, rfl⟩
                  rw [← hX] at cA hal0 hstep
                  rw [hstep] at hTT
                  obtain ⟨vs, hvs⟩ : ∃ vs : ByteArray, vs = ⟨X.toArray⟩ := ⟨_, rfl⟩
                  have hvss : vs.size = 32 := by rw [hvs]; show X.toArray.size = 32; simpa using hal0
                  have hvd : vs.data.toList = X := by rw [hvs]
                  have hcw : ∀ w' g, At w' g 63 (byteCells X) → (convert 55 9 (.slice (some ⟨g, 0, none⟩) 32 32)).run Tryd.prog w' = .ok (.string vs) w' := fun w' g h => by
                    rw [hvs]; exact run_strB (P := Tryd.prog) (d := 9) Tryd.underlying55 Tryd.underlying5 Tryd.underlying9 w' g 0 32 63 X [] [] (by simpa using h) rfl 32 hal0.symm
                  have hi9 := HAL.out.1 X hal0
                  have hol9 : (byteCells low).toArray.size = (byteCells X).toArray.size := by simp [byteCells_length, hal0, hlow]
                  have hal9 := HAL.out.2 X
                  have k1 : ¬ 9223372036854775807 < C.size + vs.size := by omega
                  obtain ⟨p, S', hSS⟩ : ∃ p S', S = p :: S' := by
                    cases S with
                    | nil => simp at hSl; omega
                    | cons p S' => exact ⟨p, S', rfl⟩
                  rw [hSS] at hW hSl hall hTT
                  have HV := Lib.hid (And.intro hvss (And.intro hvd (And.intro hal0 (And.intro hSl (And.intro hall (And.intro hTT hCs))))))
                  clear hLm hL32 hlow hTT hCs hSl hall hS hal0 hstep hX hvs hvss hvd hSS hl
                  go_upto_region 17 with (first
                    | (go_at_call 36; refine cA.mono ?_; clear cA; rintro e w5 ⟨rfl, f5⟩; have hF := hF.trans f5; have A9 := f5.keep A9 (by simp); have hW := hW.keep f5 (by simp))
                    | refine wpList_store_row rfl _ _ _ rfl _ _ rfl rfl _ _ A9.out hi9 hol9 hal9 ?_
                    | fail)
                  have A9 := A9.setRow (byteCells X).toArray
                  rw [List.toList_toArray] at A9
                  have f6 := Fr.setRow [q] w5 q (byteCells X).toArray (.inl (by simp))
                  have hW := hW.keep f6 (by simp; exact hgq)
                  have hF := hF.new f6 (by simp; omega)
                  clear f5 f6
                  generalize w5.setRow q (byteCells X).toArray = W5 at A9 hW hF ⊢
                  try simp only [Act.put]
                  have hc9 := hcw _ _ A9
                  clear hcw hi9 hol9 hal9
                  go_upto_region 18 with fail
                  clear hc9 k1
                  have l3 : (1 : Int) ≤ i := by omega
                  have l4 : (i : Int) ≤ c' := by omega
                  obtain ⟨hvss, hvd, hal0, hSl, hall, hTT, hCs⟩ := HV.out
                  have rel : ∀ (A2 : Option Addr), (0 < i - 1 → A2 = some ⟨g, o + 33, none⟩) → ∃ (m c'' : Nat) (A' : Option Addr) (L : List Pt) (low : List UInt8) (C' : ByteArray), Value.slice A2 (i - 1) (c' - 1) = .slice A' m c'' ∧ m ≤ c'' ∧ c'' ≤ maxLen ∧ L.length = m ∧ m ≤ n ∧ (∀ p ∈ L, p.2.length = 32) ∧ low.length = 32 ∧ Value.string (C ++ vs) = .string C' ∧ C'.size + 32 * m = 32 * n ∧ C'.data.toList ++ explN m low L = T ∧ (0 < m → ∃ g o, A' = some ⟨g, o, none⟩ ∧ WPts W5 g o L ∧ w.heap.size ≤ g ∧ g ≠ q) ∧ At W5 q 63 (byteCells low) ∧ Fr [] w W5 := fun A2 hA2 =>
                    ⟨i - 1, c' - 1, A2, S', X, C ++ vs, rfl, by omega, by omega, by simp at hSl; omega, by omega, fun p hp => hall p (by simp [hp]), hal0, rfl, by rw [ByteArray.size_append]; omega, by
                      rw [ByteArray.data_append, Array.toList_append, hvd, List.append_assoc]; exact hTT, fun h => ⟨g, o + 33, hA2 h, hW.tail, hgw, hgq⟩, A9, hF⟩
                  have HREL := Lib.hid rel
                  clear hvss hvd hal0 hSl hall hTT hCs rel
                  by_cases hc1 : c' = 1
                  · go_wp2_with fail
                    refine ⟨?_, by show i - 1 < i; omega⟩
                    have := HREL.out (some ⟨g, o, none⟩) (fun h => by omega)
                    rwa [show c' - 1 = 0 by omega] at this
                  · go_wp2_with fail
                    exact ⟨HREL.out _ (fun _ => rfl), by show i - 1 < i; omega⟩
            · obtain rfl : m = 0 := by omega
              have hCT : C.data.toList = T := by rw [← hTT]; simp [explN]
              have HC := Lib.hid hCT
              clear hCT hTT hW
              go_wp2_with fail
              go_ret2
              exact ⟨by rw [HRR.out, ← HC.out, ba_list0]; rfl, hF⟩
    · have b1 : (togE ps != 0) = true := by simpa using hE
      rw [expl_bad hm32 hE]
      obtain ⟨E, hEd⟩ : ∃ E, E = togE ps := ⟨_, rfl⟩
      rw [← hEd] at b1 ⊢
      have cT : Calls Tryd.prog 35 #[.slice ad ps.length cap] w fun e w' => Fr [] w w' ∧ e = .returned (.tuple #[.slice none 0 0, kin0, .int .i64 E]) := cT.mono (by
        rintro e w' ⟨f, v, K, rfl, h1, _⟩
        obtain ⟨rfl, rfl⟩ := h1 hE
        exact ⟨f, by rw [hEd]⟩)
      clear hE hEd hm hm32 hml
      go_enter Tryd.func25, Tryd.ntmps25
      unfold kin0 at cT
      go_wp2_with (first
        | (go_at_call 35; refine cT.mono ?_; clear cT; rintro e w1 ⟨f1, rfl⟩; have A0 := At.alloc_new w1 69 #[.int .i64 0, .string ⟨#[]⟩])
        | refine wpList_store_row rfl _ _ _ rfl _ _ rfl rfl _ _ A0.out hi2 rfl (kin_one _ _) ?_
        | fail)
      go_ret2
      refine ⟨rfl, (f1.trans (Fr.alloc _ _ _)).new (Fr.setRow [w1.heap.size] _ w1.heap.size _ (.inl (by simp))) (by have := f1.size; simp; omega)⟩
  · have b0 : ((master.size : Int) != 32) = true := by simp; omega
    rw [expl_key (by rw [hml]; exact hm)]
    clear cT hml hm
    go_enter Tryd.func25, Tryd.ntmps25
    go_wp2_with fail
    go_ret2
    exact ⟨rfl, Fr.refl _ _⟩
end Go.Proofs.YtffhfmaphjjffaaDoor
