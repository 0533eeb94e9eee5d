/- The law's own keyed sum, by layer 2. -/
import Derived.Test.YtbpaknnnkmjgjaaDoorLawKdfPrefixW
import Derived.Test.YtbpaknnnkmjgjaaDoorUntil
namespace Go.Proofs.YtbpaknnnkmjgjaaDoor
open Go.RowKit Go.Lib Go.Joins Base
set_option linter.unusedVariables false
set_option linter.unusedSimpArgs false

theorem own_apart {w : World} {b b' n n' : Nat} {e e' : TypeId} {v v' : Value} {xs ys : List UInt8} (h : w.ownsRow b e 1 v n (byteCells xs)) (h' : w.ownsRow b' e' 1 v' n' (byteCells ys)) (hne : xs[0]? ≠ none ∧ ys[0]? ≠ none ∧ xs[0]? ≠ ys[0]?) : ∀ g, v.ownBlock = some g → v'.ownBlock ≠ some g := by
  intro g hg hg'
  obtain ⟨h1, h2, h3⟩ := hne
  cases hx : xs[0]? with
  | none => exact h1 hx
  | some x =>
    cases hy : ys[0]? with
    | none => exact h2 hy
    | some y =>
      have c1 := h.cells hg 0 (.int .u8 x.toNat) (by simp [byteCells, hx])
      have c2 := h'.cells hg' 0 (.int .u8 y.toNat) (by simp [byteCells, hy])
      rw [c1] at c2
      simp only [Option.some.injEq, Value.int.injEq, true_and] at c2
      have e : x = y := UInt8.toNat_inj.1 (by omega)
      exact h3 (by rw [hx, hy, e])
theorem own_at {w : World} {b g n c : Nat} {e : TypeId} {xs : List Value} (h : w.ownsRow b e 1 (.slice (some ⟨g, 0, none⟩) n c) n xs) : ∃ R, At w g e (xs ++ R) := by
  obtain ⟨_, ⟨h', _⟩ | ⟨g', cap', cur, hv, hb', hg, _, _, _, ht⟩⟩ := h
  · simp at h'
  · simp only [Value.slice.injEq, Option.some.injEq, Addr.mk.injEq, and_true] at hv
    obtain ⟨rfl, _⟩ := hv
    refine ⟨cur.toList.drop (n * 1), ?_⟩
    rw [← ht, List.take_append_drop]
    unfold At; rw [hg]
theorem xor_apart (x : UInt8) : x ^^^ 54 ≠ x ^^^ 92 := by
  intro h
  have h2 := congrArg (fun y => x ^^^ y) h
  simp only [← UInt8.xor_assoc, UInt8.xor_self, UInt8.zero_xor] at h2
  exact absurd h2 (by decide)
theorem pad_apart (K : List UInt8) (i j : Nat) (hi : 0 < i) (hj : 0 < j) (hi6 : i ≤ 64) (hj6 : j ≤ 64) : ((innerL K).take i)[0]? ≠ none ∧ ((outerL K).take j)[0]? ≠ none ∧ ((innerL K).take i)[0]? ≠ ((outerL K).take j)[0]? := by
  have hl := keyOf_len K
  have e1 : ((innerL K).take i)[0]? = some ((keyOf K)[0]'(by omega) ^^^ 54) := by
    rw [List.getElem?_take, if_pos hi, innerL, List.getElem?_map, List.getElem?_eq_getElem (by omega)]; rfl
  have e2 : ((outerL K).take j)[0]? = some ((keyOf K)[0]'(by omega) ^^^ 92) := by
    rw [List.getElem?_take, if_pos hj, outerL, List.getElem?_map, List.getElem?_eq_getElem (by omega)]; rfl
  rw [e1, e2]
  refine ⟨by simp, by simp, fun h => xor_apart ((keyOf K)[0]'(by omega)) (Option.some.inj h)⟩

set_option maxRecDepth 100000 in
set_option maxHeartbeats 4000000 in
theorem keyed_any (key text : ByteArray) (hkey : key.size ≤ 1152921504606846976) (ht : text.size ≤ 576460752303423488) (w : World) (hI : First w) (hR : Roots w) :
    Calls Tryd.prog 34 #[.string key, .string text] w fun e w' => e = .returned (.string ⟨(hmacL key.data.toList text.data.toList).toArray⟩) ∧ Fr [] w w' := by
  have hi5 : (Tryd.prog.info? 5).map (fun i => (i.zero, i.size, i.bytes)) = some (some (.int .u8 0), 1, 1) := by kernel_rfl
  obtain ⟨iI, hiI, hz0, hz1, hz2⟩ := info_parts hi5
  obtain ⟨K, hK⟩ : ∃ K, K = key.data.toList := ⟨_, rfl⟩
  have hKs : K.length = key.size := by rw [hK]; simp
  rw [← hK]
  have mk1 : True := trivial
  have mk2 : True := trivial
  have hk1 : ∀ k : ByteArray, k.data.toList = shortK K → ∃ (z : Nat) (k1 : ByteArray), k.size + z = 64 ∧ k1 = k ++ ⟨(List.replicate z 0).toArray⟩ ∧ Hid (k1.data.toList = keyOf K ∧ k1.size = 64) := fun k hk => by
    have hkl : k.size = (shortK K).length := by rw [← hk]; simp
    have hs := shortK_len K
    refine ⟨64 - k.size, _, by omega, rfl, ?_⟩
    have hd : (k ++ ⟨(List.replicate (64 - k.size) 0).toArray⟩ : ByteArray).data.toList = keyOf K := by rw [ByteArray.data_append, Array.toList_append, hk, keyOf, hkl]; rfl
    refine Lib.hid ⟨hd, ?_⟩
    have h9 := keyOf_len K
    rw [← hd, Array.length_toList] at h9
    exact h9
  by_cases hlong : 64 < key.size
  · have l0 : (64 : Int) < key.size := by omega
    have hsk : shortK K = shaL K := if_pos (by omega)
    have cS : ∀ w g, First w → Roots w → At w g 9 [.string key] → Calls Tryd.prog 16 #[.slice (some ⟨g, 0, none⟩) 1 1] w fun e w' => e = .returned (.string ⟨(shortK K).toArray⟩) ∧ Fr [] w w' := fun w g h1 h2 h3 => by
      rw [hsk, hK]; exact sum_one key hkey w g h1 h2 h3
    obtain ⟨k, hk⟩ : ∃ k : ByteArray, k = ⟨(shortK K).toArray⟩ := ⟨_, rfl⟩
    obtain ⟨z, k1, hz, hk1e, HK1⟩ := hk1 k (by rw [hk])
    rw [← hk] at cS
    have cM := fun w => many_any 0 z (by omega) w
    have hzi : 64 - (k.size : Int) = z := by omega
    have hzl : (⟨(List.replicate z 0).toArray⟩ : ByteArray).size = z := by show (List.replicate z (0 : UInt8)).toArray.size = z; simp
    generalize (⟨(List.replicate z 0).toArray⟩ : ByteArray) = zs at cM hk1e hzl
    have wz : IntKind.i64.wrap (64 - (k.size : Int)) = z := by rw [IntWalk.i64_in _ (by omega)]; omega
    have k2 : ¬ 9223372036854775807 < k.size + zs.size := by omega
    have hF := Fr.refl [] w
    have HKe := Lib.hid hK
    clear hk hsk hk1 hlong hKs hzi hzl hz hK
    go_enter Tryd.func34, Tryd.ntmps34
    go_wp2_with (first
      | (go_at_call 16; refine (cS _ _ (hI.keep (Fr.alloc _ _ _)) (hR.keep (Fr.alloc [] _ _) (by simp)) (At.alloc_new _ _ _)).mono ?_; clear cS; rintro e w1 ⟨rfl, f1⟩; have hF := hF.trans ((Fr.alloc _ _ _).trans f1))
      | (go_at_call 18; refine (cM _).mono ?_; clear cM; rintro e w2 ⟨rfl, f2⟩; have hF := hF.trans f2)
      | fail)
    rw [← hk1e]
    clear hk1e wz k2
    go_loopw [6, 7, 8] (fun v6 v7 v8 wr => ∃ i : Nat, i ≤ 64 ∧ v8 = .int .i64 i ∧ wr.ownsRow w.heap.size 5 1 v6 i (byteCells ((innerL K).take i)) ∧ wr.ownsRow w.heap.size 5 1 v7 i (byteCells ((outerL K).take i)) ∧ (i = 0 → v6 = .slice none 0 0 ∧ v7 = .slice none 0 0) ∧ Below w.heap.size w wr) (fun _ _ v _ => 64 - (intOf v).toNat)
    case atStart => exact ⟨0, by omega, rfl, World.ownsRow_nil _ _ _ _, World.ownsRow_nil _ _ _ _, fun _ => ⟨rfl, rfl⟩, hF.below⟩
    case round =>
      clear hF
      obtain ⟨i, hi, rfl, h6, h7, hnil, hB⟩ := hrel
      have hsz := hB.size
      by_cases hl : i < 64
      · have l1 : (i : Int) < 64 := by omega
        have hks := HK1.out.2
        have l2 : (i : Int) < k1.size := by omega
        have l3 : i < k1.size := by omega
        obtain ⟨x, hx⟩ : ∃ x, x = (keyOf K).getD i 0 := ⟨_, rfl⟩
        have gx : k1[i] = x := bget _ (by have hp0 : i < k1.data.size := l3; rw [hx, ← HK1.out.1, List.getD, Array.getElem?_toList, Array.getElem?_eq_getElem hp0]; rfl)
        have hkl := keyOf_len K
        have x3 : ∀ t, binOp .xor t (.int .u8 (x.toNat : Int)) (.int .u8 54) = pure (.int .u8 (bt (x ^^^ 54))) := fun t => binOp_xor8 t x 54
        have x4 : ∀ t, binOp .xor t (.int .u8 (x.toNat : Int)) (.int .u8 92) = pure (.int .u8 (bt (x ^^^ 92))) := fun t => binOp_xor8 t x 92
        have hA : (innerL K).take (i + 1) = (innerL K).take i ++ [x ^^^ 54] := by
          rw [List.take_add_one, List.getElem?_eq_getElem (by rw [innerL_len]; omega)]
          simp [innerL, hx, List.getD, show i < (keyOf K).length by omega]
        have hO : (outerL K).take (i + 1) = (outerL K).take i ++ [x ^^^ 92] := by
          rw [List.take_add_one, List.getElem?_eq_getElem (by rw [outerL_len]; omega)]
          simp [outerL, hx, List.getD, show i < (keyOf K).length by omega]
        have HT := Lib.hid (And.intro hA hO)
        have hap : ∀ g, u6.ownBlock = some g → u7.ownBlock ≠ some g := by
          rcases Nat.eq_zero_or_pos i with h0 | h0
          · obtain ⟨rfl, rfl⟩ := hnil h0
            intro g hg; cases hg
          · exact own_apart h6 h7 (pad_apart K i i (by omega) (by omega) (by omega) (by omega))
        have A2 := At.alloc_new wr 5 #[Value.int .u8 (bt (x ^^^ 54))]
        have HN := Lib.hid hnil
        clear hx hkl hks hnil hA hO
        go_wp2_with (first
          | (at_builtin; clear mk2; refine wpList_append_own _ rfl _ _ _ rfl w.heap.size 5 iI (.int .u8 0) 1 1 Tryd.underlying59 hiI hz0 hz1 hz2 rfl (by decide) _ i _ rfl (World.ownsRow.alloc h6 _) ⟨wr.heap.size, 0, none⟩ 1 1 (byteCells [x ^^^ 54]) rfl rfl (by intro j u hj; rw [addr_add', Nat.zero_add]; exact (A2.cell j).trans hj) (byteCells_one _) (by simp [maxLen]; omega) (by omega) (by simp; omega) ?_; intro v2 w2 o2 gr2 _; have h7b := own_fr (World.ownsRow.alloc h7 (.cells #[Value.int .u8 (bt (x ^^^ 54))] 5)) (Fr.ofGrown gr2 (S := u6.ownBlock.toList) (by intro k hk; rw [show u6.ownBlock = some k from hk]; simp)) (fun g hg hx => hap g (by simpa using hx) hg); have hB2 := (hB.alloc (by omega) (.cells #[Value.int .u8 (bt (x ^^^ 54))] 5)).grown gr2 (by simp; omega) (fun x hx => (h6.lt x hx).1); have hsz2 := hB2.size; have A3 := At.alloc_new w2 5 #[Value.int .u8 (bt (x ^^^ 92))])
          | (at_builtin; refine wpList_append_own _ rfl _ _ _ rfl w.heap.size 5 iI (.int .u8 0) 1 1 Tryd.underlying59 hiI hz0 hz1 hz2 rfl (by decide) _ i _ rfl (World.ownsRow.alloc h7b _) ⟨w2.heap.size, 0, none⟩ 1 1 (byteCells [x ^^^ 92]) rfl rfl (by intro j u hj; rw [addr_add', Nat.zero_add]; exact (A3.cell j).trans hj) (byteCells_one _) (by simp [maxLen]; omega) (by omega) (by simp; omega) ?_; intro v3 w3 o3 gr3 _)
          | fail)
        have e2 : byteCells ((innerL K).take i) ++ byteCells [x ^^^ 54] = byteCells ((innerL K).take (i + 1)) := by rw [HT.out.1]; simp [byteCells]
        have e3 : byteCells ((outerL K).take i) ++ byteCells [x ^^^ 92] = byteCells ((outerL K).take (i + 1)) := by rw [HT.out.2]; simp [byteCells]
        rw [e2] at o2
        rw [e3] at o3
        have hap2 : ∀ g, v2.ownBlock = some g → g ∉ u7.ownBlock.toList := by
          rcases Nat.eq_zero_or_pos i with h0 | h0
          · obtain ⟨_, rfl⟩ := HN.out h0
            intro g _ hx; simp [Value.ownBlock] at hx
          · intro g hg hx
            exact own_apart o2 h7b (pad_apart K (i + 1) i (by omega) (by omega) (by omega) (by omega)) g hg (by simpa using hx)
        have o2b := own_fr (World.ownsRow.alloc o2 (.cells #[Value.int .u8 (bt (x ^^^ 92))] 5)) (Fr.ofGrown gr3 (S := u7.ownBlock.toList) (by intro k hk; rw [show u7.ownBlock = some k from hk]; simp)) hap2
        refine ⟨⟨i + 1, by omega, by simp, o2b, o3, fun h => by omega, (hB2.alloc (by omega) _).grown gr3 (by simp; omega) (fun x hx => (h7b.lt x hx).1)⟩, by simp only [intOf]; omega⟩
      · obtain rfl : i = 64 := by omega
        rw [List.take_of_length_le (by rw [innerL_len]; omega)] at h6
        rw [List.take_of_length_le (by rw [outerL_len]; omega)] at h7
        rcases ownsRow_forms h6 with ⟨rfl, h1⟩ | ⟨g6, c6, rfl⟩
        · omega
        rcases ownsRow_forms h7 with ⟨rfl, h1⟩ | ⟨g7, c7, rfl⟩
        · omega
        obtain ⟨R6, a6⟩ := own_at h6
        obtain ⟨R7, a7⟩ := own_at h7
        have v3 : ∀ w', At w' g6 5 (byteCells (innerL K) ++ R6) → (convert 59 9 (.slice (some ⟨g6, 0, none⟩) 64 c6)).run Tryd.prog w' = .ok (.string ⟨(innerL K).toArray⟩) w' := fun w' h => run_strB (P := Tryd.prog) (d := 9) Tryd.underlying59 Tryd.underlying5 Tryd.underlying9 w' g6 0 c6 5 (innerL K) [] R6 h rfl 64 (innerL_len K).symm
        have v4 : ∀ w', At w' g7 5 (byteCells (outerL K) ++ R7) → (convert 59 9 (.slice (some ⟨g7, 0, none⟩) 64 c7)).run Tryd.prog w' = .ok (.string ⟨(outerL K).toArray⟩) w' := fun w' h => run_strB (P := Tryd.prog) (d := 9) Tryd.underlying59 Tryd.underlying5 Tryd.underlying9 w' g7 0 c7 5 (outerL K) [] R7 h rfl 64 (outerL_len K).symm
        generalize byteCells (innerL K) ++ R6 = C6 at a6 v3
        generalize byteCells (outerL K) ++ R7 = C7 at a7 v4
        clear h6 h7
        obtain ⟨a, ha⟩ : ∃ a : ByteArray, a = ⟨(innerL K).toArray⟩ := ⟨_, rfl⟩
        obtain ⟨b, hb⟩ : ∃ b : ByteArray, b = ⟨(outerL K).toArray⟩ := ⟨_, rfl⟩
        obtain ⟨xs, hxs⟩ : ∃ xs : ByteArray, xs = ⟨(shaL (innerL K ++ text.data.toList)).toArray⟩ := ⟨_, rfl⟩
        have hal : a.data.toList = innerL K := by rw [ha]
        have hbl : b.data.toList = outerL K := by rw [hb]
        have hxl : xs.data.toList = shaL (innerL K ++ text.data.toList) := by rw [hxs]
        have htl : text.data.toList.length = text.size := by simp
        have cA : ∀ w g, First w → Roots w → At w g 9 [.string a, .string text] → Calls Tryd.prog 16 #[.slice (some ⟨g, 0, none⟩) 2 2] w fun e w' => e = .returned (.string xs) ∧ Fr [] w w' := fun w g h1 h2 h3 => by
          have e : joinL [a, text] = innerL K ++ text.data.toList := by rw [joinL_two, hal]
          have := sum_any [a, text] (some ⟨g, 0, none⟩) 2 (by rw [e, List.length_append, innerL_len]; omega) (by simp) w h1 h2 (Texts.ofAt h3)
          rw [e, ← hxs] at this
          exact this
        have cB : ∀ w g, First w → Roots w → At w g 9 [.string b, .string xs] → Calls Tryd.prog 16 #[.slice (some ⟨g, 0, none⟩) 2 2] w fun e w' => e = .returned (.string ⟨(hmacL K text.data.toList).toArray⟩) ∧ Fr [] w w' := fun w g h1 h2 h3 => by
          have e : joinL [b, xs] = outerL K ++ shaL (innerL K ++ text.data.toList) := by rw [joinL_two, hbl, hxl]
          have := sum_any [b, xs] (some ⟨g, 0, none⟩) 2 (by rw [e, List.length_append, outerL_len, shaL_len]; omega) (by simp) w h1 h2 (Texts.ofAt h3)
          rw [e] at this
          exact this
        simp only [← ha] at v3
        simp only [← hb] at v4
        have hF := Fr.ofBelow hB
        clear ha hb hxs hal hbl hxl htl
        go_wp2_with fail
        refine wp_region_until (fun w' => At w' g6 5 C6 ∧ At w' g7 5 C7) (fun _ => True) 1000 (by rfl) ?_
        have hT : True := trivial
        have s0 : _ ∧ _ := ⟨a6.drew, a7.drew⟩
        refine until_s0 0 (v := ?_) rfl (by kernel_rfl) (fun _ _ _ h => h) (Or.inl ⟨by rfl, ?_⟩) (by assumption) (fun h => by first | assumption | exact absurd (h : true = false) (by decide)) ?_
        rotate_left
        · intro w hSw; (try dsimp only at hSw); (try go_simp); (try with_reducible rfl)
        try simp only [Act.put, List.setIfInBounds_toArray, List.set_cons_zero, List.set_cons_succ]
        refine until_s0 1 (v := ?_) rfl (by kernel_rfl) (fun _ _ _ h => h) (Or.inl ⟨by rfl, ?_⟩) (by assumption) (fun h => by first | assumption | exact absurd (h : true = false) (by decide)) ?_
        rotate_left
        · intro w hSw; (try dsimp only at hSw); (try go_simp); (try with_reducible rfl)
        try simp only [Act.put, List.setIfInBounds_toArray, List.set_cons_zero, List.set_cons_succ]
        refine until_s0 2 (v := ?_) rfl (by kernel_rfl) (fun _ _ _ h => h) (Or.inl ⟨by rfl, ?_⟩) (by assumption) (fun h => by first | assumption | exact absurd (h : true = false) (by decide)) ?_
        rotate_left
        · intro w hSw; (try dsimp only at hSw); (try go_simp); (try with_reducible rfl)
        try simp only [Act.put, List.setIfInBounds_toArray, List.set_cons_zero, List.set_cons_succ]
        refine until_s0 3 (v := ?_) rfl (by kernel_rfl) (fun _ _ _ h => h) (Or.inl ⟨by rfl, ?_⟩) (by assumption) (fun h => by first | assumption | exact absurd (h : true = false) (by decide)) ?_
        rotate_left
        · intro w hSw; (try dsimp only at hSw); (try go_simp); (try with_reducible rfl)
        try simp only [Act.put, List.setIfInBounds_toArray, List.set_cons_zero, List.set_cons_succ]
        refine until_s0 4 (v := ?_) rfl (by kernel_rfl) (fun _ _ _ h => h) (Or.inl ⟨by rfl, ?_⟩) (by assumption) (fun h => by first | assumption | exact absurd (h : true = false) (by decide)) ?_
        rotate_left
        · intro w hSw; (try dsimp only at hSw); (try go_simp); (try with_reducible rfl)
        try simp only [Act.put, List.setIfInBounds_toArray, List.set_cons_zero, List.set_cons_succ]
        refine until_sole 5 rfl (by kernel_rfl) (by rfl) ?_
        intro K' hK
        go_simp
        have s1 : _ ∧ _ := ⟨s0.1.alloc (.cells #[.string a, .string text] 9), s0.2.alloc (.cells #[.string a, .string text] 9)⟩
        have F1 : Fr [] w (wr.drew.alloc (.cells #[.string a, .string text] 9)) := (hF.trans (Fr.drew _ _)).trans (Fr.alloc _ _ _)
        refine hK _ _ s1 (fun _ => trivial) ?_
        clear hK s0
        skip
        refine until_sole 6 rfl (by kernel_rfl) (by rfl) ?_
        intro K' hK
        go_simp
        go_at_call 16
        refine (cA _ _ (hI.keep F1) (hR.keep F1 (by simp)) (At.alloc_new wr.drew 9 #[.string a, .string text])).mono ?_
        rintro _ w3 ⟨rfl, f3⟩
        go_wp2_with fail
        have F3 := F1.trans f3
        have s3 : _ ∧ _ := ⟨f3.keep s1.1 (by simp), f3.keep s1.2 (by simp)⟩
        refine hK _ _ s3 (fun _ => trivial) ?_
        clear hK s1
        skip
        refine until_sole 7 rfl (by kernel_rfl) (by rfl) ?_
        intro K' hK
        go_simp
        have s4 : _ ∧ _ := ⟨s3.1.alloc (.cells #[.string b, .string xs] 9), s3.2.alloc (.cells #[.string b, .string xs] 9)⟩
        have F4 := F3.trans (Fr.alloc [] w3 (.cells #[.string b, .string xs] 9))
        refine hK _ _ s4 (fun _ => trivial) ?_
        clear hK s3
        skip
        refine until_sole 8 rfl (by kernel_rfl) (by rfl) ?_
        intro K' hK
        go_simp
        go_at_call 16
        refine (cB _ _ (hI.keep F4) (hR.keep F4 (by simp)) (At.alloc_new w3 9 #[.string b, .string xs])).mono ?_
        rintro _ w4 ⟨rfl, f4⟩
        go_wp2_with fail
        have s5 : _ ∧ _ := ⟨f4.keep s4.1 (by simp), f4.keep s4.2 (by simp)⟩
        refine hK _ _ s5 (fun _ => trivial) ?_
        clear hK s4
        refine until_s0 9 (v := ?_) rfl (by kernel_rfl) (fun _ _ _ h => h) (Or.inl ⟨by rfl, ?_⟩) (by assumption) (fun h => by first | assumption | exact absurd (h : true = false) (by decide)) ?_
        rotate_left
        · intro w hSw; (try dsimp only at hSw); (try go_simp); (try with_reducible rfl)
        try simp only [Act.put, List.setIfInBounds_toArray, List.set_cons_zero, List.set_cons_succ]
        refine until_done (by kernel_rfl) ?_ _
        go_wp2_with fail
        go_ret
        exact ⟨rfl, F4.trans f4⟩
  · have l0 : ¬ (64 : Int) < key.size := by omega
    have hsk : shortK K = K := if_neg (by omega)
    obtain ⟨z, k1, hz, hk1e, HK1⟩ := hk1 key (by rw [hsk, hK])
    have cM := fun w => many_any 0 z (by omega) w
    have hzl : (⟨(List.replicate z 0).toArray⟩ : ByteArray).size = z := by show (List.replicate z (0 : UInt8)).toArray.size = z; simp
    generalize (⟨(List.replicate z 0).toArray⟩ : ByteArray) = zs at cM hk1e hzl
    have wz : IntKind.i64.wrap (64 - (key.size : Int)) = z := by rw [IntWalk.i64_in _ (by omega)]; omega
    have k2 : ¬ 9223372036854775807 < key.size + zs.size := by omega
    have hF := Fr.refl [] w
    have HKs := Lib.hid hKs
    have HKe := Lib.hid hK
    clear hsk hk1 hlong hKs hzl hz hK
    go_enter Tryd.func34, Tryd.ntmps34
    go_wp2_with (first
      | (go_at_call 18; refine (cM _).mono ?_; clear cM; rintro e w2 ⟨rfl, f2⟩; have hF := hF.trans f2)
      | fail)
    rw [← hk1e]
    clear hk1e wz k2
    go_loopw [6, 7, 8] (fun v6 v7 v8 wr => ∃ i : Nat, i ≤ 64 ∧ v8 = .int .i64 i ∧ wr.ownsRow w.heap.size 5 1 v6 i (byteCells ((innerL K).take i)) ∧ wr.ownsRow w.heap.size 5 1 v7 i (byteCells ((outerL K).take i)) ∧ (i = 0 → v6 = .slice none 0 0 ∧ v7 = .slice none 0 0) ∧ Below w.heap.size w wr) (fun _ _ v _ => 64 - (intOf v).toNat)
    case atStart => exact ⟨0, by omega, rfl, World.ownsRow_nil _ _ _ _, World.ownsRow_nil _ _ _ _, fun _ => ⟨rfl, rfl⟩, hF.below⟩
    case round =>
      clear hF
      obtain ⟨i, hi, rfl, h6, h7, hnil, hB⟩ := hrel
      have hsz := hB.size
      by_cases hl : i < 64
      · have l1 : (i : Int) < 64 := by omega
        have hks := HK1.out.2
        have l2 : (i : Int) < k1.size := by omega
        have l3 : i < k1.size := by omega
        obtain ⟨x, hx⟩ : ∃ x, x = (keyOf K).getD i 0 := ⟨_, rfl⟩
        have gx : k1[i] = x := bget _ (by have hp0 : i < k1.data.size := l3; rw [hx, ← HK1.out.1, List.getD, Array.getElem?_toList, Array.getElem?_eq_getElem hp0]; rfl)
        have hkl := keyOf_len K
        have x3 : ∀ t, binOp .xor t (.int .u8 (x.toNat : Int)) (.int .u8 54) = pure (.int .u8 (bt (x ^^^ 54))) := fun t => binOp_xor8 t x 54
        have x4 : ∀ t, binOp .xor t (.int .u8 (x.toNat : Int)) (.int .u8 92) = pure (.int .u8 (bt (x ^^^ 92))) := fun t => binOp_xor8 t x 92
        have hA : (innerL K).take (i + 1) = (innerL K).take i ++ [x ^^^ 54] := by
          rw [List.take_add_one, List.getElem?_eq_getElem (by rw [innerL_len]; omega)]
          simp [innerL, hx, List.getD, show i < (keyOf K).length by omega]
        have hO : (outerL K).take (i + 1) = (outerL K).take i ++ [x ^^^ 92] := by
          rw [List.take_add_one, List.getElem?_eq_getElem (by rw [outerL_len]; omega)]
          simp [outerL, hx, List.getD, show i < (keyOf K).length by omega]
        have HT := Lib.hid (And.intro hA hO)
        have hap : ∀ g, u6.ownBlock = some g → u7.ownBlock ≠ some g := by
          rcases Nat.eq_zero_or_pos i with h0 | h0
          · obtain ⟨rfl, rfl⟩ := hnil h0
            intro g hg; cases hg
          · exact own_apart h6 h7 (pad_apart K i i (by omega) (by omega) (by omega) (by omega))
        have A2 := At.alloc_new wr 5 #[Value.int .u8 (bt (x ^^^ 54))]
        have HN := Lib.hid hnil
        clear hx hkl hks hnil hA hO
        go_wp2_with (first
          | (at_builtin; clear mk2; refine wpList_append_own _ rfl _ _ _ rfl w.heap.size 5 iI (.int .u8 0) 1 1 Tryd.underlying59 hiI hz0 hz1 hz2 rfl (by decide) _ i _ rfl (World.ownsRow.alloc h6 _) ⟨wr.heap.size, 0, none⟩ 1 1 (byteCells [x ^^^ 54]) rfl rfl (by intro j u hj; rw [addr_add', Nat.zero_add]; exact (A2.cell j).trans hj) (byteCells_one _) (by simp [maxLen]; omega) (by omega) (by simp; omega) ?_; intro v2 w2 o2 gr2 _; have h7b := own_fr (World.ownsRow.alloc h7 (.cells #[Value.int .u8 (bt (x ^^^ 54))] 5)) (Fr.ofGrown gr2 (S := u6.ownBlock.toList) (by intro k hk; rw [show u6.ownBlock = some k from hk]; simp)) (fun g hg hx => hap g (by simpa using hx) hg); have hB2 := (hB.alloc (by omega) (.cells #[Value.int .u8 (bt (x ^^^ 54))] 5)).grown gr2 (by simp; omega) (fun x hx => (h6.lt x hx).1); have hsz2 := hB2.size; have A3 := At.alloc_new w2 5 #[Value.int .u8 (bt (x ^^^ 92))])
          | (at_builtin; refine wpList_append_own _ rfl _ _ _ rfl w.heap.size 5 iI (.int .u8 0) 1 1 Tryd.underlying59 hiI hz0 hz1 hz2 rfl (by decide) _ i _ rfl (World.ownsRow.alloc h7b _) ⟨w2.heap.size, 0, none⟩ 1 1 (byteCells [x ^^^ 92]) rfl rfl (by intro j u hj; rw [addr_add', Nat.zero_add]; exact (A3.cell j).trans hj) (byteCells_one _) (by simp [maxLen]; omega) (by omega) (by simp; omega) ?_; intro v3 w3 o3 gr3 _)
          | fail)
        have e2 : byteCells ((innerL K).take i) ++ byteCells [x ^^^ 54] = byteCells ((innerL K).take (i + 1)) := by rw [HT.out.1]; simp [byteCells]
        have e3 : byteCells ((outerL K).take i) ++ byteCells [x ^^^ 92] = byteCells ((outerL K).take (i + 1)) := by rw [HT.out.2]; simp [byteCells]
        rw [e2] at o2
        rw [e3] at o3
        have hap2 : ∀ g, v2.ownBlock = some g → g ∉ u7.ownBlock.toList := by
          rcases Nat.eq_zero_or_pos i with h0 | h0
          · obtain ⟨_, rfl⟩ := HN.out h0
            intro g _ hx; simp [Value.ownBlock] at hx
          · intro g hg hx
            exact own_apart o2 h7b (pad_apart K (i + 1) i (by omega) (by omega) (by omega) (by omega)) g hg (by simpa using hx)
        have o2b := own_fr (World.ownsRow.alloc o2 (.cells #[Value.int .u8 (bt (x ^^^ 92))] 5)) (Fr.ofGrown gr3 (S := u7.ownBlock.toList) (by intro k hk; rw [show u7.ownBlock = some k from hk]; simp)) hap2
        refine ⟨⟨i + 1, by omega, by simp, o2b, o3, fun h => by omega, (hB2.alloc (by omega) _).grown gr3 (by simp; omega) (fun x hx => (h7b.lt x hx).1)⟩, by simp only [intOf]; omega⟩
      · obtain rfl : i = 64 := by omega
        rw [List.take_of_length_le (by rw [innerL_len]; omega)] at h6
        rw [List.take_of_length_le (by rw [outerL_len]; omega)] at h7
        rcases ownsRow_forms h6 with ⟨rfl, h1⟩ | ⟨g6, c6, rfl⟩
        · omega
        rcases ownsRow_forms h7 with ⟨rfl, h1⟩ | ⟨g7, c7, rfl⟩
        · omega
        obtain ⟨R6, a6⟩ := own_at h6
        obtain ⟨R7, a7⟩ := own_at h7
        have v3 : ∀ w', At w' g6 5 (byteCells (innerL K) ++ R6) → (convert 59 9 (.slice (some ⟨g6, 0, none⟩) 64 c6)).run Tryd.prog w' = .ok (.string ⟨(innerL K).toArray⟩) w' := fun w' h => run_strB (P := Tryd.prog) (d := 9) Tryd.underlying59 Tryd.underlying5 Tryd.underlying9 w' g6 0 c6 5 (innerL K) [] R6 h rfl 64 (innerL_len K).symm
        have v4 : ∀ w', At w' g7 5 (byteCells (outerL K) ++ R7) → (convert 59 9 (.slice (some ⟨g7, 0, none⟩) 64 c7)).run Tryd.prog w' = .ok (.string ⟨(outerL K).toArray⟩) w' := fun w' h => run_strB (P := Tryd.prog) (d := 9) Tryd.underlying59 Tryd.underlying5 Tryd.underlying9 w' g7 0 c7 5 (outerL K) [] R7 h rfl 64 (outerL_len K).symm
        generalize byteCells (innerL K) ++ R6 = C6 at a6 v3
        generalize byteCells (outerL K) ++ R7 = C7 at a7 v4
        clear h6 h7
        obtain ⟨a, ha⟩ : ∃ a : ByteArray, a = ⟨(innerL K).toArray⟩ := ⟨_, rfl⟩
        obtain ⟨b, hb⟩ : ∃ b : ByteArray, b = ⟨(outerL K).toArray⟩ := ⟨_, rfl⟩
        obtain ⟨xs, hxs⟩ : ∃ xs : ByteArray, xs = ⟨(shaL (innerL K ++ text.data.toList)).toArray⟩ := ⟨_, rfl⟩
        have hal : a.data.toList = innerL K := by rw [ha]
        have hbl : b.data.toList = outerL K := by rw [hb]
        have hxl : xs.data.toList = shaL (innerL K ++ text.data.toList) := by rw [hxs]
        have htl : text.data.toList.length = text.size := by simp
        have cA : ∀ w g, First w → Roots w → At w g 9 [.string a, .string text] → Calls Tryd.prog 16 #[.slice (some ⟨g, 0, none⟩) 2 2] w fun e w' => e = .returned (.string xs) ∧ Fr [] w w' := fun w g h1 h2 h3 => by
          have e : joinL [a, text] = innerL K ++ text.data.toList := by rw [joinL_two, hal]
          have := sum_any [a, text] (some ⟨g, 0, none⟩) 2 (by rw [e, List.length_append, innerL_len]; omega) (by simp) w h1 h2 (Texts.ofAt h3)
          rw [e, ← hxs] at this
          exact this
        have cB : ∀ w g, First w → Roots w → At w g 9 [.string b, .string xs] → Calls Tryd.prog 16 #[.slice (some ⟨g, 0, none⟩) 2 2] w fun e w' => e = .returned (.string ⟨(hmacL K text.data.toList).toArray⟩) ∧ Fr [] w w' := fun w g h1 h2 h3 => by
          have e : joinL [b, xs] = outerL K ++ shaL (innerL K ++ text.data.toList) := by rw [joinL_two, hbl, hxl]
          have := sum_any [b, xs] (some ⟨g, 0, none⟩) 2 (by rw [e, List.length_append, outerL_len, shaL_len]; omega) (by simp) w h1 h2 (Texts.ofAt h3)
          rw [e] at this
          exact this
        simp only [← ha] at v3
        simp only [← hb] at v4
        have hF := Fr.ofBelow hB
        clear ha hb hxs hal hbl hxl htl
        go_wp2_with fail
        refine wp_region_until (fun w' => At w' g6 5 C6 ∧ At w' g7 5 C7) (fun _ => True) 1000 (by rfl) ?_
        have hT : True := trivial
        have s0 : _ ∧ _ := ⟨a6.drew, a7.drew⟩
        refine until_s0 0 (v := ?_) rfl (by kernel_rfl) (fun _ _ _ h => h) (Or.inl ⟨by rfl, ?_⟩) (by assumption) (fun h => by first | assumption | exact absurd (h : true = false) (by decide)) ?_
        rotate_left
        · intro w hSw; (try dsimp only at hSw); (try go_simp); (try with_reducible rfl)
        try simp only [Act.put, List.setIfInBounds_toArray, List.set_cons_zero, List.set_cons_succ]
        refine until_s0 1 (v := ?_) rfl (by kernel_rfl) (fun _ _ _ h => h) (Or.inl ⟨by rfl, ?_⟩) (by assumption) (fun h => by first | assumption | exact absurd (h : true = false) (by decide)) ?_
        rotate_left
        · intro w hSw; (try dsimp only at hSw); (try go_simp); (try with_reducible rfl)
        try simp only [Act.put, List.setIfInBounds_toArray, List.set_cons_zero, List.set_cons_succ]
        refine until_s0 2 (v := ?_) rfl (by kernel_rfl) (fun _ _ _ h => h) (Or.inl ⟨by rfl, ?_⟩) (by assumption) (fun h => by first | assumption | exact absurd (h : true = false) (by decide)) ?_
        rotate_left
        · intro w hSw; (try dsimp only at hSw); (try go_simp); (try with_reducible rfl)
        try simp only [Act.put, List.setIfInBounds_toArray, List.set_cons_zero, List.set_cons_succ]
        refine until_s0 3 (v := ?_) rfl (by kernel_rfl) (fun _ _ _ h => h) (Or.inl ⟨by rfl, ?_⟩) (by assumption) (fun h => by first | assumption | exact absurd (h : true = false) (by decide)) ?_
        rotate_left
        · intro w hSw; (try dsimp only at hSw); (try go_simp); (try with_reducible rfl)
        try simp only [Act.put, List.setIfInBounds_toArray, List.set_cons_zero, List.set_cons_succ]
        refine until_s0 4 (v := ?_) rfl (by kernel_rfl) (fun _ _ _ h => h) (Or.inl ⟨by rfl, ?_⟩) (by assumption) (fun h => by first | assumption | exact absurd (h : true = false) (by decide)) ?_
        rotate_left
        · intro w hSw; (try dsimp only at hSw); (try go_simp); (try with_reducible rfl)
        try simp only [Act.put, List.setIfInBounds_toArray, List.set_cons_zero, List.set_cons_succ]
        refine until_sole 5 rfl (by kernel_rfl) (by rfl) ?_
        intro K' hK
        go_simp
        have s1 : _ ∧ _ := ⟨s0.1.alloc (.cells #[.string a, .string text] 9), s0.2.alloc (.cells #[.string a, .string text] 9)⟩
        have F1 : Fr [] w (wr.drew.alloc (.cells #[.string a, .string text] 9)) := (hF.trans (Fr.drew _ _)).trans (Fr.alloc _ _ _)
        refine hK _ _ s1 (fun _ => trivial) ?_
        clear hK s0
        skip
        refine until_sole 6 rfl (by kernel_rfl) (by rfl) ?_
        intro K' hK
        go_simp
        go_at_call 16
        refine (cA _ _ (hI.keep F1) (hR.keep F1 (by simp)) (At.alloc_new wr.drew 9 #[.string a, .string text])).mono ?_
        rintro _ w3 ⟨rfl, f3⟩
        go_wp2_with fail
        have F3 := F1.trans f3
        have s3 : _ ∧ _ := ⟨f3.keep s1.1 (by simp), f3.keep s1.2 (by simp)⟩
        refine hK _ _ s3 (fun _ => trivial) ?_
        clear hK s1
        skip
        refine until_sole 7 rfl (by kernel_rfl) (by rfl) ?_
        intro K' hK
        go_simp
        have s4 : _ ∧ _ := ⟨s3.1.alloc (.cells #[.string b, .string xs] 9), s3.2.alloc (.cells #[.string b, .string xs] 9)⟩
        have F4 := F3.trans (Fr.alloc [] w3 (.cells #[.string b, .string xs] 9))
        refine hK _ _ s4 (fun _ => trivial) ?_
        clear hK s3
        skip
        refine until_sole 8 rfl (by kernel_rfl) (by rfl) ?_
        intro K' hK
        go_simp
        go_at_call 16
        refine (cB _ _ (hI.keep F4) (hR.keep F4 (by simp)) (At.alloc_new w3 9 #[.string b, .string xs])).mono ?_
        rintro _ w4 ⟨rfl, f4⟩
        go_wp2_with fail
        have s5 : _ ∧ _ := ⟨f4.keep s4.1 (by simp), f4.keep s4.2 (by simp)⟩
        refine hK _ _ s5 (fun _ => trivial) ?_
        clear hK s4
        refine until_s0 9 (v := ?_) rfl (by kernel_rfl) (fun _ _ _ h => h) (Or.inl ⟨by rfl, ?_⟩) (by assumption) (fun h => by first | assumption | exact absurd (h : true = false) (by decide)) ?_
        rotate_left
        · intro w hSw; (try dsimp only at hSw); (try go_simp); (try with_reducible rfl)
        try simp only [Act.put, List.setIfInBounds_toArray, List.set_cons_zero, List.set_cons_succ]
        refine until_done (by kernel_rfl) ?_ _
        go_wp2_with fail
        go_ret
        exact ⟨rfl, F4.trans f4⟩
end Go.Proofs.YtbpaknnnkmjgjaaDoor
