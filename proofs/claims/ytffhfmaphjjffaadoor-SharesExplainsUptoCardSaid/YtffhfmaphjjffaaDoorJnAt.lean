/- The value at a place of the polynomials through some points, by the program. -/
import Derived.Test.YtffhfmaphjjffaaDoorJnAtP
import Derived.Test.YtffhfmaphjjffaaDoorUntil
namespace Go.Proofs.YtffhfmaphjjffaaDoor
open Go.RowKit Go.Lib Go.Joins Base Gf
set_option linter.unusedVariables false
set_option linter.unusedSimpArgs false

theorem lit32 : (#[Value.int IntKind.u8 0, Value.int IntKind.u8 0, Value.int IntKind.u8 0, Value.int IntKind.u8 0, Value.int IntKind.u8 0, Value.int IntKind.u8 0, Value.int IntKind.u8 0, Value.int IntKind.u8 0, Value.int IntKind.u8 0, Value.int IntKind.u8 0, Value.int IntKind.u8 0, Value.int IntKind.u8 0, Value.int IntKind.u8 0, Value.int IntKind.u8 0, Value.int IntKind.u8 0, Value.int IntKind.u8 0, Value.int IntKind.u8 0, Value.int IntKind.u8 0, Value.int IntKind.u8 0, Value.int IntKind.u8 0, Value.int IntKind.u8 0, Value.int IntKind.u8 0, Value.int IntKind.u8 0, Value.int IntKind.u8 0, Value.int IntKind.u8 0, Value.int IntKind.u8 0, Value.int IntKind.u8 0, Value.int IntKind.u8 0, Value.int IntKind.u8 0, Value.int IntKind.u8 0, Value.int IntKind.u8 0, Value.int IntKind.u8 0] : Array Value) = (byteCells (zerosB 32)).toArray := rfl
theorem ptCells_one (p : Pt) : ((ptCells p).toArray).all (·.oneCell') = true := pt_one p.1 p.2
set_option maxRecDepth 100000 in
set_option maxHeartbeats 4000000 in
theorem at_any (ps : List Pt) (hps : ∀ p ∈ ps, p.2.length = 32) (hn : ps.length ≤ 4194304) (g o c : Nat) (x : UInt8) (w : World) (hP : Pts w g o ps) :
    Calls Tryd.prog 36 #[.slice (some ⟨g, o, none⟩) ps.length c, .int .u8 (bt x)] w fun e w' => e = .returned (.agg (byteCells (atR ps x)).toArray) ∧ Fr [] w w' := by
  have hi1 : (Tryd.prog.info? 66).map (·.size) = some 33 := by kernel_rfl
  have hszA : ∀ X : List UInt8, X.length = 32 → (Tryd.prog.info? 63).map (·.size) = some (byteCells X).toArray.size := fun X h => by
    rw [List.size_toArray, byteCells_length, h]; kernel_rfl
  have hallA : ∀ X : List UInt8, (byteCells X).toArray.all (·.oneCell') = true := fun X => all_oneCell_toArray (byteCells_one X)
  have HR : Hid (∀ n, n ≤ ps.length → (atRT ps x n).length = 32) := Lib.hid (atRT_len ps x hps)
  have HPS := Lib.hid hps
  have A0 := (At.alloc_new w 63 (byteCells (zerosB 32)).toArray).alloc (.cells (byteCells (zerosB 32)).toArray 63)
  have A1 := At.alloc_new2 w (.cells (byteCells (zerosB 32)).toArray 63) 63 (byteCells (zerosB 32)).toArray
  have hF : Fr [] w ((w.alloc (.cells (byteCells (zerosB 32)).toArray 63)).alloc (.cells (byteCells (zerosB 32)).toArray 63)) := (Fr.alloc _ _ _).trans (Fr.alloc _ _ _)
  rw [List.toList_toArray] at A0 A1
  clear hps
  go_enter Tryd.func36, Tryd.ntmps36
  go_upto_region 2 with fail
  rw [lit32]
  obtain ⟨p, hp⟩ : ∃ p, p = w.heap.size := ⟨_, rfl⟩
  have hpw : w.heap.size ≤ p := by omega
  have hgp : g < p := by have := hP.1; omega
  generalize ((w.alloc (.cells (byteCells (zerosB 32)).toArray 63)).alloc (.cells (byteCells (zerosB 32)).toArray 63)) = W at A0 A1 hF ⊢
  rw [← hp] at A0 A1 ⊢
  clear hp
  go_wp2_with fail
  go_loopw [6, 7, 8, 9, 10, 13] (fun _ _ _ _ _ v13 wr => ∃ n : Nat, n ≤ ps.length ∧ v13 = .int .i64 n ∧ At wr p 63 (byteCells (zerosB 32)) ∧ At wr (p + 1) 63 (byteCells (atRT ps x n)) ∧ Fr [] w wr) (fun _ _ _ _ _ v _ => ps.length - (intOf v).toNat)
  case atStart => exact ⟨0, by omega, rfl, A0, A1, hF⟩
  case round =>
    clear A0 A1 hF
    obtain ⟨n, hn, rfl, A0, A1, hF⟩ := hrel
    by_cases hl : n < ps.length
    · have l1 : (n : Int) < ps.length := by omega
      obtain ⟨P, hPn⟩ : ∃ P, ps[n]? = some P := ⟨_, List.getElem?_eq_getElem hl⟩
      have hPl : P.2.length = 32 := HPS.out P (List.mem_of_getElem? hPn)
      have hld : ∀ w', Fr [] w w' → w'.rangeAt g (o + n * 33) (ptCells P) := fun w' f => (hP.keep f (by simp)).2 n P hPn
      have hi2 : (Tryd.prog.info? 66).map (·.size) = some (ptCells P).length := by rw [ptCells_len P hPl]; kernel_rfl
      have hi2' : (Tryd.prog.info? 66).map (·.size) = some (ptCells P).toArray.size := by rw [List.size_toArray]; exact hi2
      have hold : (List.replicate 33 (Value.int .u8 0)).toArray.size = (ptCells P).toArray.size := by rw [List.size_toArray, List.size_toArray, ptCells_len P hPl]; rfl
      have A2 := At.alloc_new wr 66 (List.replicate 33 (Value.int .u8 0)).toArray
      obtain ⟨q, hq⟩ : ∃ q, q = wr.heap.size := ⟨_, rfl⟩
      rw [← hq] at A2
      have hqw : w.heap.size ≤ q := by have := hF.size; omega
      have hpq : p ≠ q := by have := A0.lt; omega
      have hpq1 : p + 1 ≠ q := by have := A1.lt; omega
      have HPn := Lib.hid (And.intro hPn hPl)
      clear hPn hPl
      go_upto_region 5 with (first
        | refine wpList_load_mid rfl _ _ rfl g (o + n * 33) rfl (ptCells P) _ (hld _ hF) Tryd.underlying66 rfl hi2 ?_
        | (rw [lit33, ← hq]; refine wpList_store_row rfl _ _ _ rfl _ _ rfl rfl _ _ A2.out hi2' hold (ptCells_one _) ?_)
        | fail)
      have A2 := A2.setRow (ptCells P).toArray
      have A0 := (A0.alloc (.cells (List.replicate 33 (Value.int .u8 0)).toArray 66)).setRow_other hpq (ptCells P).toArray
      have A1 := (A1.alloc (.cells (List.replicate 33 (Value.int .u8 0)).toArray 66)).setRow_other hpq1 (ptCells P).toArray
      have hF := (hF.trans (Fr.alloc [] _ (.cells (List.replicate 33 (Value.int .u8 0)).toArray 66))).new (Fr.setRow [q] _ q (ptCells P).toArray (.inl (by simp))) (by simp; exact hqw)
      clear hq
      generalize (wr.alloc (.cells (List.replicate 33 (Value.int .u8 0)).toArray 66)).setRow q (ptCells P).toArray = W1 at A0 A1 A2 hF ⊢
      try simp only [Act.put]
      clear hld hold
      rw [List.toList_toArray] at A2
      go_wp2_with fail
      go_loopw [8, 9, 10, 20] (fun v8 _ _ v20 wr => ∃ m : Nat, m ≤ ps.length ∧ v20 = .int .i64 m ∧ v8 = .int .u8 (bt (lagT (xsOf ps) n x m)) ∧ At wr p 63 (byteCells (zerosB 32)) ∧ At wr (p + 1) 63 (byteCells (atRT ps x n)) ∧ At wr q 66 (ptCells P) ∧ Fr [] w wr) (fun _ _ _ v _ => ps.length - (intOf v).toNat)
      case atStart => exact ⟨0, by omega, rfl, rfl, A0, A1, A2, hF⟩
      case round =>
        clear A0 A1 A2 hF
        obtain ⟨m, hm, rfl, rfl, A0, A1, A2, hF⟩ := hrel
        by_cases hlm : m < ps.length
        · have l2 : (m : Int) < ps.length := by omega
          obtain ⟨Q, hQn⟩ : ∃ Q, ps[m]? = some Q := ⟨_, List.getElem?_eq_getElem hlm⟩
          have hQl : Q.2.length = 32 := HPS.out Q (List.mem_of_getElem? hQn)
          have hld : ∀ w', Fr [] w w' → w'.rangeAt g (o + m * 33) (ptCells Q) := fun w' f => (hP.keep f (by simp)).2 m Q hQn
          have hi4 : (Tryd.prog.info? 66).map (·.size) = some (ptCells Q).length := by rw [ptCells_len Q hQl]; kernel_rfl
          have hi4' : (Tryd.prog.info? 66).map (·.size) = some (ptCells Q).toArray.size := by rw [List.size_toArray]; exact hi4
          have hold : (List.replicate 33 (Value.int .u8 0)).toArray.size = (ptCells Q).toArray.size := by rw [List.size_toArray, List.size_toArray, ptCells_len Q hQl]; rfl
          have A3 := At.alloc_new wr 66 (List.replicate 33 (Value.int .u8 0)).toArray
          obtain ⟨r, hr⟩ : ∃ r, r = wr.heap.size := ⟨_, rfl⟩
          rw [← hr] at A3
          have hrw : w.heap.size ≤ r := by have := hF.size; omega
          have hpr : p ≠ r := by have := A0.lt; omega
          have hpr1 : p + 1 ≠ r := by have := A1.lt; omega
          have hqr : q ≠ r := by have := A2.lt; omega
          have HQn := Lib.hid (And.intro hQn hQl)
          clear hQn hQl
          go_upto_region 9 with (first
            | refine wpList_load_mid rfl _ _ rfl g (o + m * 33) rfl (ptCells Q) _ (hld _ hF) Tryd.underlying66 rfl hi4 ?_
            | (rw [lit33, ← hr]; refine wpList_store_row rfl _ _ _ rfl _ _ rfl rfl _ _ A3.out hi4' hold (ptCells_one _) ?_)
            | fail)
          have A3 := A3.setRow (ptCells Q).toArray
          have A0 := (A0.alloc (.cells (List.replicate 33 (Value.int .u8 0)).toArray 66)).setRow_other hpr (ptCells Q).toArray
          have A1 := (A1.alloc (.cells (List.replicate 33 (Value.int .u8 0)).toArray 66)).setRow_other hpr1 (ptCells Q).toArray
          have A2 := (A2.alloc (.cells (List.replicate 33 (Value.int .u8 0)).toArray 66)).setRow_other hqr (ptCells Q).toArray
          have hF := (hF.trans (Fr.alloc [] _ (.cells (List.replicate 33 (Value.int .u8 0)).toArray 66))).new (Fr.setRow [r] _ r (ptCells Q).toArray (.inl (by simp))) (by simp; exact hrw)
          clear hr
          generalize (wr.alloc (.cells (List.replicate 33 (Value.int .u8 0)).toArray 66)).setRow r (ptCells Q).toArray = W2 at A0 A1 A2 A3 hF ⊢
          try simp only [Act.put]
          rw [List.toList_toArray] at A3
          clear hld hold hi4 hi4'
          obtain ⟨f, hf⟩ : ∃ f, f = lagT (xsOf ps) n x m := ⟨_, rfl⟩
          rw [← hf]
          have hstep : lagT (xsOf ps) n x (m + 1) = if m = n then f else gmul f (gmul (x ^^^ Q.1) (ginv (P.1 ^^^ Q.1))) := by
            rw [lagT, xsOf_get ps m Q HQn.out.1, xsOf_get ps n P HPn.out.1, ← hf]
          have HS := Lib.hid hstep
          clear hstep hf
          by_cases hmn : m = n
          · have b1 : ((m : Int) != n) = false := by simp [hmn]
            have HMN := Lib.hid hmn
            clear hmn
            go_wp2_with fail
            exact ⟨⟨m + 1, by omega, by simp, by rw [HS.out, if_pos HMN.out], A0, A1, A2, hF⟩, by simp only [intOf]; omega⟩
          · have b1 : ((m : Int) != n) = true := by simp; omega
            have HMN := Lib.hid hmn
            have c0 := A3.cell 0
            have d0 := A2.cell 0
            obtain ⟨y1, hy1⟩ : ∃ y, y = Q.1 := ⟨_, rfl⟩
            obtain ⟨y2, hy2⟩ : ∃ y, y = P.1 := ⟨_, rfl⟩
            have c0 : W2.cell? ⟨r, 0, none⟩ = some (.int .u8 (bt y1)) := by rw [c0, hy1]; rfl
            have d0 : W2.cell? ⟨q, 0, none⟩ = some (.int .u8 (bt y2)) := by rw [d0, hy2]; rfl
            have m1 := fun w => inv_any (y2 ^^^ y1) w
            have m2 := fun w => mul_any (x ^^^ y1) (ginv (y2 ^^^ y1)) w
            have m3 := fun w => mul_any f (gmul (x ^^^ y1) (ginv (y2 ^^^ y1))) w
            have HY := Lib.hid (And.intro hy1 hy2)
            clear hmn hy1 hy2
            go_wp2_with fail
            refine wp_region_until (fun w' => w'.cell? ⟨r, 0, none⟩ = some (.int .u8 (bt y1)) ∧ w'.cell? ⟨q, 0, none⟩ = some (.int .u8 (bt y2))) (fun _ => True) 1000 (by rfl) ?_
            have hT : True := trivial
            have s0 : W2.drew.cell? ⟨r, 0, none⟩ = some (.int .u8 (bt y1)) ∧ W2.drew.cell? ⟨q, 0, none⟩ = some (.int .u8 (bt y2)) := ⟨c0, d0⟩
            refine until_s0 0 (v := ?_) rfl (by kernel_rfl) (fun _ _ _ h => h) (Or.inl ⟨by rfl, ?_⟩) (by assumption) (fun h => by first | assumption | exact absurd (h : true = false) (by decide)) ?_
            rotate_left
            · intro w hSw; (try dsimp only at hSw); (try go_simp); (try with_reducible rfl)
            try simp only [Act.put, List.setIfInBounds_toArray, List.set_cons_zero, List.set_cons_succ]
            refine until_s0 1 (v := ?_) rfl (by kernel_rfl) (fun _ _ _ h => h) (Or.inl ⟨by rfl, ?_⟩) (by assumption) (fun h => by first | assumption | exact absurd (h : true = false) (by decide)) ?_
            rotate_left
            · intro w hSw; (try dsimp only at hSw); (try go_simp); (try with_reducible rfl)
            try simp only [Act.put, List.setIfInBounds_toArray, List.set_cons_zero, List.set_cons_succ]
            refine until_s0 2 (v := ?_) rfl (by kernel_rfl) (fun _ _ _ h => h) (Or.inl ⟨by rfl, ?_⟩) (by assumption) (fun h => by first | assumption | exact absurd (h : true = false) (by decide)) ?_
            rotate_left
            · intro w hSw; (try dsimp only at hSw); (try go_simp); (try with_reducible rfl)
            try simp only [Act.put, List.setIfInBounds_toArray, List.set_cons_zero, List.set_cons_succ]
            refine until_s0 3 (v := ?_) rfl (by kernel_rfl) (fun _ _ _ h => h) (Or.inl ⟨by rfl, ?_⟩) (by assumption) (fun h => by first | assumption | exact absurd (h : true = false) (by decide)) ?_
            rotate_left
            · intro w hSw; (try dsimp only at hSw); (try go_simp); (try with_reducible rfl)
            try simp only [Act.put, List.setIfInBounds_toArray, List.set_cons_zero, List.set_cons_succ]
            refine until_s0 4 (v := ?_) rfl (by kernel_rfl) (fun _ _ _ h => h) (Or.inl ⟨by rfl, ?_⟩) (by assumption) (fun h => by first | assumption | exact absurd (h : true = false) (by decide)) ?_
            rotate_left
            · intro w hSw; (try dsimp only at hSw); (try go_simp); (try with_reducible rfl)
            try simp only [Act.put, List.setIfInBounds_toArray, List.set_cons_zero, List.set_cons_succ]
            refine until_s0 5 (v := ?_) rfl (by kernel_rfl) (fun _ _ _ h => h) (Or.inl ⟨by rfl, ?_⟩) (by assumption) (fun h => by first | assumption | exact absurd (h : true = false) (by decide)) ?_
            rotate_left
            · intro w hSw; (try dsimp only at hSw); (try go_simp); (try with_reducible rfl)
            try simp only [Act.put, List.setIfInBounds_toArray, List.set_cons_zero, List.set_cons_succ]
            refine until_s0 6 (v := ?_) rfl (by kernel_rfl) (fun _ _ _ h => h) (Or.inl ⟨by rfl, ?_⟩) (by assumption) (fun h => by first | assumption | exact absurd (h : true = false) (by decide)) ?_
            rotate_left
            · intro w hSw; (try dsimp only at hSw); (try go_simp); (try with_reducible rfl)
            try simp only [Act.put, List.setIfInBounds_toArray, List.set_cons_zero, List.set_cons_succ]
            refine until_s0 7 (v := ?_) rfl (by kernel_rfl) (fun _ _ _ h => h) (Or.inl ⟨by rfl, ?_⟩) (by assumption) (fun h => by first | assumption | exact absurd (h : true = false) (by decide)) ?_
            rotate_left
            · intro w hSw; (try dsimp only at hSw); (try go_simp); (try with_reducible rfl)
            try simp only [Act.put, List.setIfInBounds_toArray, List.set_cons_zero, List.set_cons_succ]
            refine until_s0 8 (v := ?_) rfl (by kernel_rfl) (fun _ _ _ h => h) (Or.inl ⟨by rfl, ?_⟩) (by assumption) (fun h => by first | assumption | exact absurd (h : true = false) (by decide)) ?_
            rotate_left
            · intro w hSw; (try dsimp only at hSw); (try go_simp); (try with_reducible rfl)
            try simp only [Act.put, List.setIfInBounds_toArray, List.set_cons_zero, List.set_cons_succ]
            refine until_s0 9 (v := ?_) rfl (by kernel_rfl) (fun _ _ _ h => h) (Or.inl ⟨by rfl, ?_⟩) (by assumption) (fun h => by first | assumption | exact absurd (h : true = false) (by decide)) ?_
            rotate_left
            · intro w hSw; (try dsimp only at hSw); (try go_simp); (try with_reducible rfl)
            try simp only [Act.put, List.setIfInBounds_toArray, List.set_cons_zero, List.set_cons_succ]
            refine until_sole 10 rfl (by kernel_rfl) (by rfl) ?_
            intro K' hK
            go_simp
            go_at_call 41
            refine (m1 _).mono ?_
            rintro _ w3 ⟨rfl, rfl⟩
            go_wp2_with fail
            refine hK _ _ s0 (fun _ => trivial) ?_
            clear hK m1
            skip
            refine until_sole 11 rfl (by kernel_rfl) (by rfl) ?_
            intro K' hK
            go_simp
            go_at_call 45
            refine (m2 _).mono ?_
            rintro _ w3 ⟨rfl, rfl⟩
            go_wp2_with fail
            refine hK _ _ s0 (fun _ => trivial) ?_
            clear hK m2
            skip
            refine until_sole 12 rfl (by kernel_rfl) (by rfl) ?_
            intro K' hK
            go_simp
            go_at_call 45
            refine (m3 _).mono ?_
            rintro _ w3 ⟨rfl, rfl⟩
            go_wp2_with fail
            refine hK _ _ s0 (fun _ => trivial) ?_
            clear hK m3
            refine until_s0 13 (v := ?_) rfl (by kernel_rfl) (fun _ _ _ h => h) (Or.inl ⟨by rfl, ?_⟩) (by assumption) (fun h => by first | assumption | exact absurd (h : true = false) (by decide)) ?_
            rotate_left
            · intro w hSw; (try dsimp only at hSw); (try go_simp); (try with_reducible rfl)
            try simp only [Act.put, List.setIfInBounds_toArray, List.set_cons_zero, List.set_cons_succ]
            refine until_done (by kernel_rfl) ?_ _
            go_wp2_with fail
            exact ⟨⟨m + 1, by omega, by simp, by rw [HS.out, if_neg HMN.out, ← HY.out.1, ← HY.out.2], A0.drew, A1.drew, A2.drew, hF.trans (Fr.drew _ _)⟩, by simp only [intOf]; omega⟩
        · obtain rfl : m = ps.length := by omega
          have hPl := HPn.out.2
          have hRl := HR.out n (by omega)
          have hR2 := HR.out (n + 1) (by omega)
          have hnext : atRT ps x (n + 1) = plusR (atRT ps x n) P.2 (lagT (xsOf ps) n x ps.length) := by
            rw [atRT, lag, xsOf_len]
            have : ps.getD n (0, []) = P := by simp [List.getD, HPn.out.1]
            rw [this]
          have cP := plus_any (atRT ps x n) P.2 (lagT (xsOf ps) n x ps.length) hRl hPl
          rw [← hnext] at cP
          generalize lagT (xsOf ps) n x ps.length = f at cP ⊢
          clear hnext
          have hr1 := hszA _ hRl
          have hr2 := hszA _ hR2
          have hol : (byteCells (atRT ps x n)).toArray.size = (byteCells (atRT ps x (n + 1))).toArray.size := by simp [byteCells_length, hRl, hR2]
          have hal := hallA (atRT ps x (n + 1))
          have hmid : ∀ w', At w' q 66 (ptCells P) → w'.rangeAt q 1 (byteCells P.2) := fun w' h j v hv => by
            rw [h.cell, ← hv, Nat.add_comm]; rfl
          have hi5 : (Tryd.prog.info? 63).map (·.size) = some (byteCells P.2).length := by rw [byteCells_length, hPl]; kernel_rfl
          clear hPl hRl hR2 hszA hallA
          generalize hRR : atRT ps x (n + 1) = R' at cP hr2 hol hal
          have HRR := Lib.hid hRR
          clear hRR
          generalize atRT ps x n = R at A1 cP hr1 hol
          go_wp2_with (first
            | refine wpList_load_row rfl _ _ rfl _ rfl _ _ _ _ A1.out Tryd.underlying63 rfl hr1 ?_
            | refine wpList_load_mid rfl _ _ rfl q 1 rfl (byteCells P.2) _ (hmid _ A2) Tryd.underlying63 rfl hi5 ?_
            | (go_at_call 31; refine (cP _).mono ?_; clear cP; rintro e w5 ⟨rfl, f5⟩; have A0 := f5.keep A0 (by simp); have A1 := f5.keep A1 (by simp); have hF := hF.trans f5)
            | refine wpList_store_row rfl _ _ _ rfl _ _ rfl rfl _ _ A1.out hr2 hol hal ?_
            | fail)
          refine ⟨⟨n + 1, by omega, by simp, A0.setRow_other (show p ≠ p + 1 by omega) _, ?_, hF.new (S := [p + 1]) (Fr.setRow _ _ _ _ (.inl (by simp))) (by simp; omega)⟩, by simp only [intOf]; omega⟩
          rw [HRR.out]
          have := A1.setRow (byteCells R').toArray
          rwa [List.toList_toArray] at this
    · obtain rfl : n = ps.length := by omega
      have hRl := HR.out ps.length (by omega)
      have hr1 := hszA _ hRl
      have hol : (byteCells (zerosB 32)).toArray.size = (byteCells (atRT ps x ps.length)).toArray.size := by simp [byteCells_length, hRl, zerosB]
      have hal := hallA (atRT ps x ps.length)
      generalize hRR : atRT ps x ps.length = R at A1 hr1 hol hal
      have HRR := Lib.hid hRR
      clear hRR
      clear hszA hallA
      go_wp2_with (first
        | refine wpList_load_row rfl _ _ rfl _ rfl _ _ _ _ A1.out Tryd.underlying63 rfl hr1 ?_
        | refine wpList_store_row rfl _ _ _ rfl _ _ rfl rfl _ _ A0.out hr1 hol hal ?_
        | fail)
      have A0' := A0.setRow (byteCells R).toArray
      rw [show atR ps x = R from HRR.out]
      refine ⟨rfl, _, ?_, rfl, hF.new (S := [p]) (Fr.setRow _ _ _ _ (.inl (by simp))) (by simp; omega)⟩
      exact results_cell_row (fn := Tryd.f36) (p := 4) (ty := 63) (by rfl) _ _ p 63 (byteCells R).toArray (0, 0) _ rfl A0'.out Tryd.underlying63 rfl hr1
end Go.Proofs.YtffhfmaphjjffaaDoor
