/- padsOf of the program: a key's two pads. -/
import Derived.Test.YtbpaknnnkmjgjaaDoorKdfP
import Derived.Test.YtbpaknnnkmjgjaaDoorUntil
namespace Go.Proofs.YtbpaknnnkmjgjaaDoor
open Go.RowKit Go.Lib Go.Joins Base
set_option linter.unusedVariables false
set_option linter.unusedSimpArgs false

theorem Texts.ofAt {w : World} {g : Nat} {T : TypeId} {ps : List ByteArray} (h : At w g T (ps.map Value.string)) : Texts w (some ⟨g, 0, none⟩) ps := by
  intro j s hj
  refine ⟨g, 0, rfl, ?_⟩
  rw [Nat.zero_add, h.cell, List.getElem?_map, hj]; rfl
theorem sum_one (s : ByteArray) (hs : s.size ≤ 1152921504606846976) (w : World) (g : Nat) (hI : First w) (hR : Roots w) (h : At w g 9 [.string s]) :
    Calls Tryd.prog 16 #[.slice (some ⟨g, 0, none⟩) 1 1] w fun e w' => e = .returned (.string ⟨(shaL s.data.toList).toArray⟩) ∧ Fr [] w w' := by
  have hj : joinL [s] = s.data.toList := by simp [joinL]
  have := sum_any [s] (some ⟨g, 0, none⟩) 1 (by rw [hj]; simp; omega) (by simp) w hI hR (Texts.ofAt h)
  rw [hj] at this
  exact this

/-- copy, by a run that is known. -/
theorem wpList_copy_run {P : Program} {ops : Array Oper} {rest : List Oper} {o : Oper} {a : Act} {w : World} {Q : Exit → Act → World → Prop}
    (hg : o.guard = none) (s x : Operand) (t1 t2 : TypeId) (hop : o.op = Op.call { callee := Callee.builtin Builtin.copy, args := #[s, x], argTypes := #[t1, t2] })
    (vs vx v : Value) (w' : World) (hs : a.eval s = vs) (hx : a.eval x = vx) (hrun : (Builtin.copy_ #[t1, t2] o.type #[vs, vx]).run P w = .ok v w')
    (h : wpList P ops Q rest (a.put o.dst v) w') : wpList P ops Q (o :: rest) a w := by
  refine wpList_plain hg fun K hK' => ?_
  unfold Oper.wp
  simp [execOp, hop, resolve, invoke, builtin, hs, hx, hrun, Result.andThen]
  exact hK' _ _ h
theorem two_new (w : World) (n : Nat) (hn : w.heap.size = n) (T : TypeId) (Z : Array Value) : At ((w.alloc (.cells Z T)).alloc (.cells Z T)) n T Z.toList ∧ At ((w.alloc (.cells Z T)).alloc (.cells Z T)) (n + 1) T Z.toList := by
  subst hn
  exact ⟨(At.alloc_new w T Z).alloc _, by have := At.alloc_new (w.alloc (.cells Z T)) T Z; simpa using this⟩
/-- The second half: what stands behind the key's shortening. -/
theorem copy_key (w' : World) (g : Nat) (k : ByteArray) (K : List UInt8) (hk : k.data.toList = shortK K) (ty : TypeId) (h : At w' g 83 (List.replicate 64 (.int .u8 0))) :
    (Builtin.copy_ #[59, 9] ty #[.slice (some ⟨g, 0, none⟩) 64 64, .string k]).run Tryd.prog w' = .ok (.int .i64 (k.size : Int)) (w'.setRow g (byteCells (keyOf K)).toArray) := by
  have hl : k.size = (shortK K).length := by have := congrArg List.length hk; simpa using this
  have hs := shortK_len K
  have := run_copy_cut (P := Tryd.prog) w' 59 9 ty 5 g 0 64 64 k _ _ Tryd.underlying59 (by kernel_rfl) h.out k.size (by omega) (by simp; omega)
  rw [this]
  have e : (List.replicate 64 (Value.int .u8 0)).toArray.toList.take 0 ++ byteCells (List.take k.size k.data.toList) ++ (List.replicate 64 (Value.int .u8 0)).toArray.toList.drop (0 + k.size) = byteCells (keyOf K) := by
    rw [List.take_of_length_le (show k.data.toList.length ≤ k.size by simp), hk, Nat.zero_add, hl]
    rw [List.take_zero, List.nil_append]
    have e1 : (List.replicate 64 (Value.int .u8 0)).toArray.toList.drop (shortK K).length = byteCells (zerosB (64 - (shortK K).length)) := by
      rw [List.toList_toArray, List.drop_replicate]
      simp [byteCells, zerosB]
    rw [e1]
    unfold keyOf byteCells
    rw [List.map_append]
  rw [e]; rfl

set_option maxRecDepth 100000 in
set_option maxHeartbeats 1000000 in
theorem padsOf_any (key : ByteArray) (hkey : key.size ≤ 1152921504606846976) (w : World) (hI : First w) (hR : Roots w) :
    Calls Tryd.prog 38 #[.string key] w fun e w' => e = .returned (.agg #[.string ⟨(innerL key.data.toList).toArray⟩, .string ⟨(outerL key.data.toList).toArray⟩]) ∧ Fr [] w w' := by
  obtain ⟨K, hK⟩ : ∃ K, K = key.data.toList := ⟨_, rfl⟩
  have hKl : K.length = key.size := by rw [hK]; simp
  rw [← hK]
  have hF := Fr.refl [] w
  by_cases h64 : 64 < key.size
  · have l1 : (64 : Int) < key.size := by omega
    have hk : (⟨(shaL K).toArray⟩ : ByteArray).data.toList = shortK K := by unfold shortK; rw [if_pos (by omega)]
    have cS : ∀ w g, First w → Roots w → At w g 9 [.string key] → Calls Tryd.prog 16 #[.slice (some ⟨g, 0, none⟩) 1 1] w fun e w' => e = .returned (.string ⟨(shaL K).toArray⟩) ∧ Fr [] w w' := fun w g h1 h2 h3 => by rw [hK]; exact sum_one key hkey w g h1 h2 h3
    generalize (⟨(shaL K).toArray⟩ : ByteArray) = k at hk cS
    have hat : ∀ o, At ((w.alloc o).alloc (.cells #[.string key] 9)) (w.heap.size + 1) 9 [.string key] := fun o => by
      have := At.alloc_new (w.alloc o) 9 #[.string key]; simpa using this
    have A2 := At.alloc_new w 63 #[.string ⟨#[]⟩, .string ⟨#[]⟩]
    have hcp := fun w' g ty h => copy_key w' g k K hk ty h
    have HK := Lib.hid (And.intro hK (And.intro hKl hk))
    clear hK hKl h64 hk
    go_enter Tryd.func38, Tryd.ntmps38
    have mk1 : True := trivial
    go_wp2_with (first
      | (go_at_call 16; refine (cS _ _ (hI.keep (hF.trans ((Fr.alloc _ _ _).trans (Fr.alloc _ _ _)))) (hR.keep (hF.trans ((Fr.alloc _ _ _).trans (Fr.alloc [] _ _))) (by simp)) (hat _)).mono ?_; rintro e w7 ⟨rfl, f7⟩; have hF := hF.trans ((Fr.alloc _ _ _).trans ((Fr.alloc _ _ _).trans f7)); have A2 := f7.keep (A2.alloc _) (by simp))
      | (clear mk1; refine wpList_copy_run rfl _ _ _ _ rfl _ _ _ _ rfl rfl (hcp _ w7.heap.size _ (two_new w7 w7.heap.size rfl 83 (List.replicate 64 (Value.int .u8 0)).toArray).1) ?_)
      | (refine wpList_copy_run rfl _ _ _ _ rfl _ _ _ _ rfl rfl (hcp _ (w7.heap.size + 1) _ ((two_new w7 w7.heap.size rfl 83 (List.replicate 64 (Value.int .u8 0)).toArray).2.setRow_other (by omega) _)) ?_)
      | fail)
    have hlt := A2.lt
    have hsz := hF.size
    go_loopw [18] (fun v wr => ∃ i : Nat, i ≤ 64 ∧ v = .int .i64 i ∧ At wr w7.heap.size 83 (byteCells (xorTo (keyOf K) 54 i)) ∧ At wr (w7.heap.size + 1) 83 (byteCells (xorTo (keyOf K) 92 i)) ∧ At wr w.heap.size 63 [.string ⟨#[]⟩, .string ⟨#[]⟩] ∧ Fr [] w wr) (fun v _ => 64 - (intOf v).toNat)
    case atStart =>
      refine ⟨0, by omega, rfl, ?_, ?_, ?_, ?_⟩
      · rw [xorTo_zero]; exact ((two_new w7 w7.heap.size rfl 83 (List.replicate 64 (Value.int .u8 0)).toArray).1.setRow (byteCells (keyOf K)).toArray).setRow_other (by omega) _
      · rw [xorTo_zero]; exact ((two_new w7 w7.heap.size rfl 83 (List.replicate 64 (Value.int .u8 0)).toArray).2.setRow_other (by omega) _).setRow (byteCells (keyOf K)).toArray
      · exact (((A2.alloc _).alloc _).setRow_other (by omega) _).setRow_other (by omega) _
      · exact hF.new (S := [w7.heap.size, w7.heap.size + 1]) ((((Fr.alloc _ _ _).trans (Fr.alloc _ _ _)).trans (Fr.setRow _ _ _ _ (.inl (by simp)))).trans (Fr.setRow _ _ _ _ (.inl (by simp)))) (by simp; omega)
    case round =>
      clear A2 hF hcp
      obtain ⟨i, hi, rfl, h3, h4, A2, hF⟩ := hrel
      have hkl := keyOf_len K
      by_cases hl : i < 64
      · have c3 := h3.cell i
        have c4 := h4.cell i
        rw [byteCells_get _ _ (by rw [xorTo_len _ _ _ (by omega)]; omega), xorTo_get _ _ _ (by omega)] at c3 c4
        have f3 := h3.frozen i
        have f4 := h4.frozen i
        have s3 := xorTo_set (keyOf K) 54 i (by omega)
        have s4 := xorTo_set (keyOf K) 92 i (by omega)
        generalize (keyOf K).getD i 0 = x at c3 c4 s3 s4
        have HS := Lib.hid (And.intro s3 s4)
        have x3 : ∀ t, binOp .xor t (.int .u8 (bt x)) (.int .u8 54) = pure (.int .u8 (bt (x ^^^ 54))) := fun t => binOp_xor8 t x 54
        have x4 : ∀ t, binOp .xor t (.int .u8 (bt x)) (.int .u8 92) = pure (.int .u8 (bt (x ^^^ 92))) := fun t => binOp_xor8 t x 92
        have l2 : (i : Int) < 64 := by omega
        clear s3 s4 hkl
        go_wp2_with fail
        refine ⟨⟨i + 1, by omega, by simp, ?_, ?_, ?_, ?_⟩, by simp only [intOf]; omega⟩
        · rw [← HS.out.1, ← byteCells_set]; exact (h3.setCell i _).setCell_other (by show w7.heap.size ≠ w7.heap.size + 1; omega) _
        · rw [← HS.out.2, ← byteCells_set]; exact (h4.setCell_other (by show w7.heap.size + 1 ≠ w7.heap.size; omega) _).setCell i _
        · exact (A2.setCell_other (by show w.heap.size ≠ w7.heap.size; omega) _).setCell_other (by show w.heap.size ≠ w7.heap.size + 1; omega) _
        · exact hF.new (S := [w7.heap.size, w7.heap.size + 1]) ((Fr.setCell [w7.heap.size, w7.heap.size + 1] wr ⟨w7.heap.size, i, none⟩ _ (.inl (by simp))).trans (Fr.setCell [w7.heap.size, w7.heap.size + 1] _ ⟨w7.heap.size + 1, i, none⟩ _ (.inl (by simp)))) (by simp; omega)
      · obtain rfl : i = 64 := by omega
        have e3 : xorTo (keyOf K) 54 64 = innerL K := by rw [← hkl, xorTo_all]; rfl
        have e4 : xorTo (keyOf K) 92 64 = outerL K := by rw [← hkl, xorTo_all]; rfl
        rw [e3] at h3
        rw [e4] at h4
        have v3 : ∀ w', At w' w7.heap.size 83 (byteCells (innerL K)) → (convert 59 9 (.slice (some ⟨w7.heap.size, 0, none⟩) 64 64)).run Tryd.prog w' = .ok (.string ⟨(innerL K).toArray⟩) w' := fun w' h => run_strB (P := Tryd.prog) (d := 9) Tryd.underlying59 Tryd.underlying5 Tryd.underlying9 w' w7.heap.size 0 64 _ (innerL K) [] [] (by simpa using h) rfl 64 (innerL_len K).symm
        have v4 : ∀ w', At w' (w7.heap.size + 1) 83 (byteCells (outerL K)) → (convert 59 9 (.slice (some ⟨w7.heap.size + 1, 0, none⟩) 64 64)).run Tryd.prog w' = .ok (.string ⟨(outerL K).toArray⟩) w' := fun w' h => run_strB (P := Tryd.prog) (d := 9) Tryd.underlying59 Tryd.underlying5 Tryd.underlying9 w' (w7.heap.size + 1) 0 64 _ (outerL K) [] [] (by simpa using h) rfl 64 (outerL_len K).symm
        obtain ⟨a, ha⟩ : ∃ a : ByteArray, a = ⟨(innerL K).toArray⟩ := ⟨_, rfl⟩
        obtain ⟨b, hb⟩ : ∃ b : ByteArray, b = ⟨(outerL K).toArray⟩ := ⟨_, rfl⟩
        simp only [← ha] at v3
        simp only [← hb] at v4
        have HA := Lib.hid ha
        have HB := Lib.hid hb
        clear e3 e4 ha hb
        go_wp2_with fail
        refine wp_region_until (fun w' => At w' w7.heap.size 83 (byteCells (innerL K)) ∧ At w' (w7.heap.size + 1) 83 (byteCells (outerL K))) (fun _ => True) 1000 (by rfl) ?_
        have hT : True := trivial
        have s0 : _ ∧ _ := ⟨h3.drew, h4.drew⟩
        refine until_s0 0 (v := ?_) rfl (by kernel_rfl) (fun _ _ _ h => h) (Or.inl ⟨by rfl, ?_⟩) (by assumption) (fun h => by first | assumption | exact absurd (h : true = false) (by decide)) ?_
        rotate_left
        · intro w hSw; (try dsimp only at hSw); (try go_simp); (try with_reducible rfl)
        try simp only [Act.put, List.setIfInBounds_toArray, List.set_cons_zero, List.set_cons_succ]
        refine until_s0 1 (v := ?_) rfl (by kernel_rfl) (fun _ _ _ h => h) (Or.inl ⟨by rfl, ?_⟩) (by assumption) (fun h => by first | assumption | exact absurd (h : true = false) (by decide)) ?_
        rotate_left
        · intro w hSw; (try dsimp only at hSw); (try go_simp); (try with_reducible rfl)
        try simp only [Act.put, List.setIfInBounds_toArray, List.set_cons_zero, List.set_cons_succ]
        refine until_s0 2 (v := ?_) rfl (by kernel_rfl) (fun _ _ _ h => h) (Or.inl ⟨by rfl, ?_⟩) (by assumption) (fun h => by first | assumption | exact absurd (h : true = false) (by decide)) ?_
        rotate_left
        · intro w hSw; (try dsimp only at hSw); (try go_simp); (try with_reducible rfl)
        try simp only [Act.put, List.setIfInBounds_toArray, List.set_cons_zero, List.set_cons_succ]
        refine until_s0 3 (v := ?_) rfl (by kernel_rfl) (fun _ _ _ h => h) (Or.inl ⟨by rfl, ?_⟩) (by assumption) (fun h => by first | assumption | exact absurd (h : true = false) (by decide)) ?_
        rotate_left
        · intro w hSw; (try dsimp only at hSw); (try go_simp); (try with_reducible rfl)
        try simp only [Act.put, List.setIfInBounds_toArray, List.set_cons_zero, List.set_cons_succ]
        refine until_s0 4 (v := ?_) rfl (by kernel_rfl) (fun _ _ _ h => h) (Or.inl ⟨by rfl, ?_⟩) (by assumption) (fun h => by first | assumption | exact absurd (h : true = false) (by decide)) ?_
        rotate_left
        · intro w hSw; (try dsimp only at hSw); (try go_simp); (try with_reducible rfl)
        try simp only [Act.put, List.setIfInBounds_toArray, List.set_cons_zero, List.set_cons_succ]
        refine until_sole 5 rfl (by kernel_rfl) (by rfl) ?_
        intro K' hK
        have ht : wr.drew.there w.heap.size 0 2 := by
          intro j hj
          rw [Nat.zero_add, A2.drew.cell]
          exact ⟨by match j, hj with | 0, _ => rfl | 1, _ => rfl, A2.drew.frozen _⟩
        refine wp_store_mid _ _ _ rfl w.heap.size 0 #[.string a, .string b] rfl rfl ht (by kernel_rfl) (all_oneCell_toArray (cs := [.string a, .string b]) (by intro v hv; simp at hv; rcases hv with rfl | rfl <;> rfl)) ?_
        have A2' : At (wr.drew.setCells w.heap.size 0 [.string a, .string b]) w.heap.size 63 [.string a, .string b] := by
          have := At.setCells [.string a, .string b] 0 _ _ A2.drew (by simp); simpa using this
        have F5 := Fr.setCells (g := w.heap.size) (S := [w.heap.size]) (by simp) [.string a, .string b] 0 wr.drew
        refine hK _ _ ⟨F5.keep h3.drew (by simp; omega), F5.keep h4.drew (by simp; omega)⟩ (fun _ => trivial) ?_
        clear hK
        refine until_done (by kernel_rfl) ?_ _
        go_wp2_with fail
        rw [← HA.out, ← HB.out]
        refine ⟨rfl, _, ?_, rfl, hF.new (S := [w.heap.size]) ((Fr.drew _ _).trans F5) (by simp)⟩
        refine results_cell_row (fn := Tryd.f38) (p := 2) (ty := 63) (by rfl) _ _ w.heap.size 63 #[.string a, .string b] (0, 0) _ ?_ A2'.out Tryd.underlying63 rfl (by kernel_rfl)
        simp only [Act.put, List.setIfInBounds_toArray, List.set_cons_zero, List.set_cons_succ, Array.getD_eq_getD_getElem?, List.getElem?_toArray, List.getElem?_cons_succ, List.getElem?_cons_zero, Option.getD_some]
  · have l1 : ¬ (64 : Int) < key.size := by omega
    have hk : key.data.toList = shortK K := by unfold shortK; rw [if_neg (by omega), hK]
    have A2 := At.alloc_new w 63 #[.string ⟨#[]⟩, .string ⟨#[]⟩]
    have hF := hF.trans (Fr.alloc [] w (.cells #[.string ⟨#[]⟩, .string ⟨#[]⟩] 63))
    have hcp := fun w' g ty h => copy_key w' g key K hk ty h
    have HK := Lib.hid (And.intro hK (And.intro hKl hk))
    clear hK hKl h64 hk
    go_enter Tryd.func38, Tryd.ntmps38
    have mk1 : True := trivial
    go_wp2_with (first
      | (clear mk1; refine wpList_copy_run rfl _ _ _ _ rfl _ _ _ _ rfl rfl (hcp _ (w.heap.size + 1) _ (two_new (w.alloc (.cells #[.string ⟨#[]⟩, .string ⟨#[]⟩] 63)) (w.heap.size + 1) (by simp) 83 (List.replicate 64 (Value.int .u8 0)).toArray).1) ?_)
      | (refine wpList_copy_run rfl _ _ _ _ rfl _ _ _ _ rfl rfl (hcp _ ((w.heap.size + 1) + 1) _ ((two_new (w.alloc (.cells #[.string ⟨#[]⟩, .string ⟨#[]⟩] 63)) (w.heap.size + 1) (by simp) 83 (List.replicate 64 (Value.int .u8 0)).toArray).2.setRow_other (by omega) _)) ?_)
      | fail)
    have hlt : w.heap.size < w.heap.size + 1 := by omega
    have hsz := hF.size
    go_loopw [18] (fun v wr => ∃ i : Nat, i ≤ 64 ∧ v = .int .i64 i ∧ At wr (w.heap.size + 1) 83 (byteCells (xorTo (keyOf K) 54 i)) ∧ At wr ((w.heap.size + 1) + 1) 83 (byteCells (xorTo (keyOf K) 92 i)) ∧ At wr w.heap.size 63 [.string ⟨#[]⟩, .string ⟨#[]⟩] ∧ Fr [] w wr) (fun v _ => 64 - (intOf v).toNat)
    case atStart =>
      refine ⟨0, by omega, rfl, ?_, ?_, ?_, ?_⟩
      · rw [xorTo_zero]; exact ((two_new (w.alloc (.cells #[.string ⟨#[]⟩, .string ⟨#[]⟩] 63)) (w.heap.size + 1) (by simp) 83 (List.replicate 64 (Value.int .u8 0)).toArray).1.setRow (byteCells (keyOf K)).toArray).setRow_other (by omega) _
      · rw [xorTo_zero]; exact ((two_new (w.alloc (.cells #[.string ⟨#[]⟩, .string ⟨#[]⟩] 63)) (w.heap.size + 1) (by simp) 83 (List.replicate 64 (Value.int .u8 0)).toArray).2.setRow_other (by omega) _).setRow (byteCells (keyOf K)).toArray
      · exact (((A2.alloc _).alloc _).setRow_other (by omega) _).setRow_other (by omega) _
      · exact hF.new (S := [(w.heap.size + 1), (w.heap.size + 1) + 1]) ((((Fr.alloc _ _ _).trans (Fr.alloc _ _ _)).trans (Fr.setRow _ _ _ _ (.inl (by simp)))).trans (Fr.setRow _ _ _ _ (.inl (by simp)))) (by simp; omega)
    case round =>
      clear A2 hF hcp
      obtain ⟨i, hi, rfl, h3, h4, A2, hF⟩ := hrel
      have hkl := keyOf_len K
      by_cases hl : i < 64
      · have c3 := h3.cell i
        have c4 := h4.cell i
        rw [byteCells_get _ _ (by rw [xorTo_len _ _ _ (by omega)]; omega), xorTo_get _ _ _ (by omega)] at c3 c4
        have f3 := h3.frozen i
        have f4 := h4.frozen i
        have s3 := xorTo_set (keyOf K) 54 i (by omega)
        have s4 := xorTo_set (keyOf K) 92 i (by omega)
        generalize (keyOf K).getD i 0 = x at c3 c4 s3 s4
        have HS := Lib.hid (And.intro s3 s4)
        have x3 : ∀ t, binOp .xor t (.int .u8 (bt x)) (.int .u8 54) = pure (.int .u8 (bt (x ^^^ 54))) := fun t => binOp_xor8 t x 54
        have x4 : ∀ t, binOp .xor t (.int .u8 (bt x)) (.int .u8 92) = pure (.int .u8 (bt (x ^^^ 92))) := fun t => binOp_xor8 t x 92
        have l2 : (i : Int) < 64 := by omega
        clear s3 s4 hkl
        go_wp2_with fail
        refine ⟨⟨i + 1, by omega, by simp, ?_, ?_, ?_, ?_⟩, by simp only [intOf]; omega⟩
        · rw [← HS.out.1, ← byteCells_set]; exact (h3.setCell i _).setCell_other (by show (w.heap.size + 1) ≠ (w.heap.size + 1) + 1; omega) _
        · rw [← HS.out.2, ← byteCells_set]; exact (h4.setCell_other (by show (w.heap.size + 1) + 1 ≠ (w.heap.size + 1); omega) _).setCell i _
        · exact (A2.setCell_other (by show w.heap.size ≠ (w.heap.size + 1); omega) _).setCell_other (by show w.heap.size ≠ (w.heap.size + 1) + 1; omega) _
        · exact hF.new (S := [(w.heap.size + 1), (w.heap.size + 1) + 1]) ((Fr.setCell [(w.heap.size + 1), (w.heap.size + 1) + 1] wr ⟨(w.heap.size + 1), i, none⟩ _ (.inl (by simp))).trans (Fr.setCell [(w.heap.size + 1), (w.heap.size + 1) + 1] _ ⟨(w.heap.size + 1) + 1, i, none⟩ _ (.inl (by simp)))) (by simp; omega)
      · obtain rfl : i = 64 := by omega
        have e3 : xorTo (keyOf K) 54 64 = innerL K := by rw [← hkl, xorTo_all]; rfl
        have e4 : xorTo (keyOf K) 92 64 = outerL K := by rw [← hkl, xorTo_all]; rfl
        rw [e3] at h3
        rw [e4] at h4
        have v3 : ∀ w', At w' (w.heap.size + 1) 83 (byteCells (innerL K)) → (convert 59 9 (.slice (some ⟨(w.heap.size + 1), 0, none⟩) 64 64)).run Tryd.prog w' = .ok (.string ⟨(innerL K).toArray⟩) w' := fun w' h => run_strB (P := Tryd.prog) (d := 9) Tryd.underlying59 Tryd.underlying5 Tryd.underlying9 w' (w.heap.size + 1) 0 64 _ (innerL K) [] [] (by simpa using h) rfl 64 (innerL_len K).symm
        have v4 : ∀ w', At w' ((w.heap.size + 1) + 1) 83 (byteCells (outerL K)) → (convert 59 9 (.slice (some ⟨(w.heap.size + 1) + 1, 0, none⟩) 64 64)).run Tryd.prog w' = .ok (.string ⟨(outerL K).toArray⟩) w' := fun w' h => run_strB (P := Tryd.prog) (d := 9) Tryd.underlying59 Tryd.underlying5 Tryd.underlying9 w' ((w.heap.size + 1) + 1) 0 64 _ (outerL K) [] [] (by simpa using h) rfl 64 (outerL_len K).symm
        obtain ⟨a, ha⟩ : ∃ a : ByteArray, a = ⟨(innerL K).toArray⟩ := ⟨_, rfl⟩
        obtain ⟨b, hb⟩ : ∃ b : ByteArray, b = ⟨(outerL K).toArray⟩ := ⟨_, rfl⟩
        simp only [← ha] at v3
        simp only [← hb] at v4
        have HA := Lib.hid ha
        have HB := Lib.hid hb
        clear e3 e4 ha hb
        go_wp2_with fail
        refine wp_region_until (fun w' => At w' (w.heap.size + 1) 83 (byteCells (innerL K)) ∧ At w' ((w.heap.size + 1) + 1) 83 (byteCells (outerL K))) (fun _ => True) 1000 (by rfl) ?_
        have hT : True := trivial
        have s0 : _ ∧ _ := ⟨h3.drew, h4.drew⟩
        refine until_s0 0 (v := ?_) rfl (by kernel_rfl) (fun _ _ _ h => h) (Or.inl ⟨by rfl, ?_⟩) (by assumption) (fun h => by first | assumption | exact absurd (h : true = false) (by decide)) ?_
        rotate_left
        · intro w hSw; (try dsimp only at hSw); (try go_simp); (try with_reducible rfl)
        try simp only [Act.put, List.setIfInBounds_toArray, List.set_cons_zero, List.set_cons_succ]
        refine until_s0 1 (v := ?_) rfl (by kernel_rfl) (fun _ _ _ h => h) (Or.inl ⟨by rfl, ?_⟩) (by assumption) (fun h => by first | assumption | exact absurd (h : true = false) (by decide)) ?_
        rotate_left
        · intro w hSw; (try dsimp only at hSw); (try go_simp); (try with_reducible rfl)
        try simp only [Act.put, List.setIfInBounds_toArray, List.set_cons_zero, List.set_cons_succ]
        refine until_s0 2 (v := ?_) rfl (by kernel_rfl) (fun _ _ _ h => h) (Or.inl ⟨by rfl, ?_⟩) (by assumption) (fun h => by first | assumption | exact absurd (h : true = false) (by decide)) ?_
        rotate_left
        · intro w hSw; (try dsimp only at hSw); (try go_simp); (try with_reducible rfl)
        try simp only [Act.put, List.setIfInBounds_toArray, List.set_cons_zero, List.set_cons_succ]
        refine until_s0 3 (v := ?_) rfl (by kernel_rfl) (fun _ _ _ h => h) (Or.inl ⟨by rfl, ?_⟩) (by assumption) (fun h => by first | assumption | exact absurd (h : true = false) (by decide)) ?_
        rotate_left
        · intro w hSw; (try dsimp only at hSw); (try go_simp); (try with_reducible rfl)
        try simp only [Act.put, List.setIfInBounds_toArray, List.set_cons_zero, List.set_cons_succ]
        refine until_s0 4 (v := ?_) rfl (by kernel_rfl) (fun _ _ _ h => h) (Or.inl ⟨by rfl, ?_⟩) (by assumption) (fun h => by first | assumption | exact absurd (h : true = false) (by decide)) ?_
        rotate_left
        · intro w hSw; (try dsimp only at hSw); (try go_simp); (try with_reducible rfl)
        try simp only [Act.put, List.setIfInBounds_toArray, List.set_cons_zero, List.set_cons_succ]
        refine until_sole 5 rfl (by kernel_rfl) (by rfl) ?_
        intro K' hK
        have ht : wr.drew.there w.heap.size 0 2 := by
          intro j hj
          rw [Nat.zero_add, A2.drew.cell]
          exact ⟨by match j, hj with | 0, _ => rfl | 1, _ => rfl, A2.drew.frozen _⟩
        refine wp_store_mid _ _ _ rfl w.heap.size 0 #[.string a, .string b] rfl rfl ht (by kernel_rfl) (all_oneCell_toArray (cs := [.string a, .string b]) (by intro v hv; simp at hv; rcases hv with rfl | rfl <;> rfl)) ?_
        have A2' : At (wr.drew.setCells w.heap.size 0 [.string a, .string b]) w.heap.size 63 [.string a, .string b] := by
          have := At.setCells [.string a, .string b] 0 _ _ A2.drew (by simp); simpa using this
        have F5 := Fr.setCells (g := w.heap.size) (S := [w.heap.size]) (by simp) [.string a, .string b] 0 wr.drew
        refine hK _ _ ⟨F5.keep h3.drew (by simp), F5.keep h4.drew (by simp; omega)⟩ (fun _ => trivial) ?_
        clear hK
        refine until_done (by kernel_rfl) ?_ _
        go_wp2_with fail
        rw [← HA.out, ← HB.out]
        refine ⟨rfl, _, ?_, rfl, hF.new (S := [w.heap.size]) ((Fr.drew _ _).trans F5) (by simp)⟩
        refine results_cell_row (fn := Tryd.f38) (p := 2) (ty := 63) (by rfl) _ _ w.heap.size 63 #[.string a, .string b] (0, 0) _ ?_ A2'.out Tryd.underlying63 rfl (by kernel_rfl)
        simp only [Act.put, List.setIfInBounds_toArray, List.set_cons_zero, List.set_cons_succ, Array.getD_eq_getD_getElem?, List.getElem?_toArray, List.getElem?_cons_succ, List.getElem?_cons_zero, Option.getD_some]
end Go.Proofs.YtbpaknnnkmjgjaaDoor
