/- The law KdfBuilt walked. -/
import Derived.Test.YtbpaknnnkmjgjaaDoorKeyed
import Derived.Test.YtbpaknnnkmjgjaaDoorKdfBuiltP
import Derived.Test.YtbpaknnnkmjgjaaDoorUntil
namespace Go.Proofs.YtbpaknnnkmjgjaaDoor
open Go.RowKit Go.Lib Go.Joins Base
set_option linter.unusedVariables false
set_option linter.unusedSimpArgs false

set_option maxRecDepth 100000 in
set_option maxHeartbeats 1000000 in
theorem xored3_any (a b : ByteArray) (h : a.size = b.size) (ha : a.size ≤ 1048576) (w : World) :
    Calls Tryd.prog 35 #[.string a, .string b] w fun e w' => e = .returned (.string ⟨(xorL a.data.toList b.data.toList).toArray⟩) ∧ Fr [] w w' := by
  have hi5 : (Tryd.prog.info? 5).map (fun i => (i.zero, i.size, i.bytes)) = some (some (.int .u8 0), 1, 1) := by kernel_rfl
  obtain ⟨iI, hiI, hz0, hz1, hz2⟩ := info_parts hi5
  have hal : a.data.toList.length = a.size := by simp
  have hbl : b.data.toList.length = b.size := by simp
  obtain ⟨X, hX⟩ : ∃ X, X = xorL a.data.toList b.data.toList := ⟨_, rfl⟩
  have hXl : X.length = a.size := by rw [hX, xorL_len _ _ (by omega), hal]
  have hXg : ∀ i, i < a.size → X.getD i 0 = a.data.toList.getD i 0 ^^^ b.data.toList.getD i 0 := fun i hi => by rw [hX]; exact xorL_get _ _ i (by omega) (by omega)
  have HX := Lib.hid (And.intro hX hXg)
  have hb2 : b.size = a.size := h.symm
  have HH := Lib.hid h
  clear hX hXg hal hbl h hb2
  go_enter Tryd.func35, Tryd.ntmps35
  go_wp2_with fail
  go_loopw [5, 6] (fun v5 v6 wr => ∃ i : Nat, i ≤ a.size ∧ v6 = .int .i64 i ∧ wr.ownsRow w.heap.size 5 1 v5 i (byteCells (X.take i)) ∧ Below w.heap.size w wr) (fun _ v _ => a.size - (intOf v).toNat)
  case atStart => exact ⟨0, by omega, rfl, World.ownsRow_nil _ _ _ _, Below.refl _ _⟩
  case round =>
    obtain ⟨i, hi, rfl, h0, hB⟩ := hrel
    have hsz := hB.size
    by_cases hl : i < a.size
    · have l1 : (i : Int) < a.size := by omega
      have hl2 : i < b.size := by have := HH.out; omega
      have l2 : (i : Int) < b.size := by omega
      obtain ⟨y, hy⟩ : ∃ y, y = X.getD i 0 := ⟨_, rfl⟩
      have HT : Hid (X.take (i + 1) = X.take i ++ [y]) := Lib.hid (by rw [List.take_add_one, List.getElem?_eq_getElem (by omega), hy]; simp [List.getD, show i < X.length by omega])
      obtain ⟨x1, hx1⟩ : ∃ x, x = a.data.toList.getD i 0 := ⟨_, rfl⟩
      have g1 : a[i] = x1 := bget _ (by have hp0 : i < a.data.size := hl; rw [hx1, List.getD, Array.getElem?_toList, Array.getElem?_eq_getElem hp0]; rfl)
      obtain ⟨x2, hx2⟩ : ∃ x, x = b.data.toList.getD i 0 := ⟨_, rfl⟩
      have g2 : b[i] = x2 := bget _ (by have hp0 : i < b.data.size := hl2; rw [hx2, List.getD, Array.getElem?_toList, Array.getElem?_eq_getElem hp0]; rfl)
      have x3 : ∀ t, binOp .xor t (.int .u8 (x1.toNat : Int)) (.int .u8 (x2.toNat : Int)) = pure (.int .u8 (bt y)) := fun t => by rw [hy, HX.out.2 i hl, ← hx1, ← hx2]; exact binOp_xor8 t x1 x2
      have A2 := At.alloc_new wr.drew 5 #[Value.int .u8 (bt y)]
      clear hx1 hx2 hy
      go_wp2_with fail
      refine wp_region_until (fun _ => True) (fun _ => True) 1000 (by rfl) ?_
      have hT : True := trivial
      refine until_s0 0 (v := ?_) rfl (by kernel_rfl) (fun _ _ _ h => h) (Or.inl ⟨by rfl, ?_⟩) (by assumption) (fun h => by first | assumption | exact absurd (h : true = false) (by decide)) ?_
      rotate_left
      · intro w hSw; (try dsimp only at hSw); (try go_simp); (try with_reducible rfl)
      try simp only [Act.put, List.setIfInBounds_toArray, List.set_cons_zero, List.set_cons_succ]
      refine until_s0 1 (v := ?_) rfl (by kernel_rfl) (fun _ _ _ h => h) (Or.inl ⟨by rfl, ?_⟩) (by assumption) (fun h => by first | assumption | exact absurd (h : true = false) (by decide)) ?_
      rotate_left
      · intro w hSw; (try dsimp only at hSw); (try go_simp); (try with_reducible rfl)
      try simp only [Act.put, List.setIfInBounds_toArray, List.set_cons_zero, List.set_cons_succ]
      refine until_s0 2 (v := ?_) rfl (by kernel_rfl) (fun _ _ _ h => h) (Or.inl ⟨by rfl, ?_⟩) (by assumption) (fun h => by first | assumption | exact absurd (h : true = false) (by decide)) ?_
      rotate_left
      · intro w hSw; (try dsimp only at hSw); (try go_simp); (try with_reducible rfl)
      try simp only [Act.put, List.setIfInBounds_toArray, List.set_cons_zero, List.set_cons_succ]
      refine until_s0 3 (v := ?_) rfl (by kernel_rfl) (fun _ _ _ h => h) (Or.inl ⟨by rfl, ?_⟩) (by assumption) (fun h => by first | assumption | exact absurd (h : true = false) (by decide)) ?_
      rotate_left
      · intro w hSw; (try dsimp only at hSw); (try go_simp); (try with_reducible rfl)
      try simp only [Act.put, List.setIfInBounds_toArray, List.set_cons_zero, List.set_cons_succ]
      refine until_s0 4 (v := ?_) rfl (by kernel_rfl) (fun _ _ _ h => h) (Or.inl ⟨by rfl, ?_⟩) (by assumption) (fun h => by first | assumption | exact absurd (h : true = false) (by decide)) ?_
      rotate_left
      · intro w hSw; (try dsimp only at hSw); (try go_simp); (try with_reducible rfl)
      try simp only [Act.put, List.setIfInBounds_toArray, List.set_cons_zero, List.set_cons_succ]
      refine until_s0 5 (v := ?_) rfl (by kernel_rfl) (fun _ _ _ h => h) (Or.inl ⟨by rfl, ?_⟩) (by assumption) (fun h => by first | assumption | exact absurd (h : true = false) (by decide)) ?_
      rotate_left
      · intro w hSw; (try dsimp only at hSw); (try go_simp); (try with_reducible rfl)
      try simp only [Act.put, List.setIfInBounds_toArray, List.set_cons_zero, List.set_cons_succ]
      refine until_s0 6 (v := ?_) rfl (by kernel_rfl) (fun _ _ _ h => h) (Or.inl ⟨by rfl, ?_⟩) (by assumption) (fun h => by first | assumption | exact absurd (h : true = false) (by decide)) ?_
      rotate_left
      · intro w hSw; (try dsimp only at hSw); (try go_simp); (try with_reducible rfl)
      try simp only [Act.put, List.setIfInBounds_toArray, List.set_cons_zero, List.set_cons_succ]
      refine until_s0 7 (v := ?_) rfl (by kernel_rfl) (fun _ _ _ h => h) (Or.inl ⟨by rfl, ?_⟩) (by assumption) (fun h => by first | assumption | exact absurd (h : true = false) (by decide)) ?_
      rotate_left
      · intro w hSw; (try dsimp only at hSw); (try go_simp); (try with_reducible rfl)
      try simp only [Act.put, List.setIfInBounds_toArray, List.set_cons_zero, List.set_cons_succ]
      refine until_sole 8 rfl (by kernel_rfl) (by rfl) ?_
      intro K' hK
      go_simp
      refine hK _ _ trivial (fun _ => trivial) ?_
      clear hK
      skip
      refine until_sole 9 rfl (by kernel_rfl) (by rfl) ?_
      intro K' hK
      refine wp_append_own _ _ _ _ rfl w.heap.size 5 iI (.int .u8 0) 1 1 Tryd.underlying59 hiI hz0 hz1 hz2 rfl (by decide) _ i _ rfl (World.ownsRow.alloc (World.ownsRow.drew h0) _) ⟨wr.heap.size, 0, none⟩ 1 1 (byteCells [y]) rfl rfl ?_ ?_ ?_ ?_ ?_ ?_
      case refine_1 => intro j u hj; rw [addr_add', Nat.zero_add]; exact (A2.cell j).trans hj
      case refine_2 => exact byteCells_one _
      case refine_3 => simp [maxLen]; omega
      case refine_4 => omega
      case refine_5 => simp; omega
      intro v' w' hown hgr _
      refine hK _ _ trivial (fun _ => trivial) ?_
      clear hK
      refine until_s0 10 (v := ?_) rfl (by kernel_rfl) (fun _ _ _ h => h) (Or.inl ⟨by rfl, ?_⟩) (by assumption) (fun h => by first | assumption | exact absurd (h : true = false) (by decide)) ?_
      rotate_left
      · intro w hSw; (try dsimp only at hSw); (try go_simp); (try with_reducible rfl)
      try simp only [Act.put, List.setIfInBounds_toArray, List.set_cons_zero, List.set_cons_succ]
      refine until_done (by kernel_rfl) ?_ _
      go_wp2_with fail
      refine ⟨⟨i + 1, by omega, by simp, by rw [HT.out]; simpa [byteCells] using hown, (hB.drew.alloc (by show w.heap.size ≤ wr.heap.size; omega) _).grown hgr (by simp; omega) (fun x hx => (h0.lt x hx).1)⟩, by simp only [intOf]; omega⟩
    · obtain rfl : i = a.size := by omega
      rw [List.take_of_length_le (by omega)] at h0
      have hcv := run_strOwn Tryd.underlying59 Tryd.underlying5 Tryd.underlying9 h0
      go_wp2_with fail
      go_ret
      exact ⟨by rw [← HX.out.1]; rfl, Fr.ofBelow hB⟩

set_option maxRecDepth 100000 in
set_option maxHeartbeats 4000000 in
theorem built_law {w : World} (key : ByteArray) (hk : key.size ≤ 140737488351232) (text : ByteArray) (ht : text.size ≤ 140737488351232) (at_ : Int) (h1 : (Lit.int .i64 at_).wf = true) (rounds : Int) (h2 : (Lit.int .i64 rounds).wf = true) (hI : First w) (hR : Roots w) :
    Calls Tryd.prog 10 #[.string key, .string text, .int .i64 at_, .int .i64 rounds] w fun e w' => e = .returned (.bool true) ∧ Fr [] w w' := by
  obtain ⟨K, hK⟩ : ∃ K, K = key.data.toList := ⟨_, rfl⟩
  obtain ⟨T, hT⟩ : ∃ T, T = text.data.toList := ⟨_, rfl⟩
  have cK : ∀ (t : ByteArray), t.size ≤ 576460752303423488 → ∀ w, First w → Roots w → Calls Tryd.prog 34 #[.string key, .string t] w fun e w' => e = .returned (.string ⟨(hmacL K t.data.toList).toArray⟩) ∧ Fr [] w w' := fun t h w h1 h2 => by
    rw [hK]; exact keyed_any key t (by omega) h w h1 h2
  have cK1 := cK text (by omega)
  have cH := fun w g h1 h2 h3 => hmac_one key text (by omega) (by omega) w g h1 h2 h3
  have cE := fun w h1 h2 => extract_any key text (by omega) (by omega) w h1 h2
  rw [← hT] at cK1 cH cE
  rw [← hK] at cH cE
  have hXs : (⟨(hmacL K T).toArray⟩ : ByteArray).size = 32 := by show (hmacL K T).toArray.size = 32; rw [List.size_toArray, hmacL_len]
  generalize (⟨(hmacL K T).toArray⟩ : ByteArray) = X at cK1 cH cE hXs
  have c1 := fun w => clipped_any at_ 1 16 (int_range h1) (by omega) (by omega) (by omega) w
  have c2 := fun w => clipped_any rounds 1 40 (int_range h2) (by omega) (by omega) (by omega) w
  have hF := Fr.refl [] w
  have HL := Lib.hid (And.intro hk (And.intro ht (And.intro hK hT)))
  have mk1 : True := trivial
  clear h1 h2 hk ht hK hT
  go_enter Tryd.func10, Tryd.ntmps10
  go_wp2_with (first
    | (go_at_call 34; refine (cK1 _ (hI.keep hF) (hR.keep hF (by simp))).mono ?_; clear cK1; rintro e w1 ⟨rfl, f1⟩; have hF := hF.trans f1)
    | (go_at_call 13; refine (cH _ _ (hI.keep (hF.trans (Fr.alloc _ _ _))) (hR.keep (hF.trans (Fr.alloc [] _ _)) (by simp)) (At.alloc_new _ _ _)).mono ?_; clear cH; rintro e w2 ⟨rfl, f2⟩; have hF := hF.trans ((Fr.alloc _ _ _).trans f2))
    | (go_at_call 28; refine (cE _ (hI.keep hF) (hR.keep hF (by simp))).mono ?_; clear cE; rintro e w3 ⟨rfl, f3⟩; have hF := hF.trans f3)
    | (go_at_call 17; clear mk1; refine (c1 _).mono ?_; clear c1; rintro e w4 ⟨n, hn0, hn1, rfl, f4⟩; obtain ⟨N, rfl⟩ : ∃ N : Nat, n = N := ⟨n.toNat, (by omega)⟩; have hF := hF.trans f4; have HN := Lib.hid (And.intro hn0 hn1); clear hn0 hn1)
    | fail)
  obtain ⟨hN1, hN2⟩ := HN.out
  obtain ⟨hk, ht, hK, hT⟩ := HL.out
  have hKl : (outerL K).length = 64 := outerL_len K
  obtain ⟨q, hq⟩ : ∃ q : Nat, N = q + 1 := ⟨N - 1, by omega⟩
  obtain ⟨M, hM⟩ : ∃ M : Nat, M = 32 * N := ⟨_, rfl⟩
  obtain ⟨Q, hQ⟩ : ∃ Q : Nat, Q = 32 * q := ⟨_, rfl⟩
  have v5 : wrap64 (32 * (N : Int)) = (M : Int) := by rw [show 32 * (N : Int) = M by omega]; exact IntWalk.wrap64_in _ (by omega)
  have u5 : IntKind.i64.wrap (32 * (N : Int)) = (M : Int) := by rw [show 32 * (N : Int) = M by omega]; exact IntWalk.i64_in _ (by omega)
  have u4 : IntKind.i64.wrap (32 * (q : Int)) = (Q : Int) := by rw [show 32 * (q : Int) = Q by omega]; exact IntWalk.i64_in _ (by omega)
  have u3 : IntKind.i64.wrap ((N : Int) - 1) = (q : Int) := by rw [show (N : Int) - 1 = q by omega]; exact IntWalk.i64_in _ (by omega)
  have cX := fun w h1 h2 => expand_any key text (by omega) (by omega) M (by omega) w h1 h2
  have cP := fun (r : Nat) (h1 : 1 ≤ r) (h2 : r ≤ 40) w h3 h4 => pass_any key text (by omega) (by omega) r M h1 (by omega) (by omega) w h3 h4
  rw [← hK, ← hT] at cX cP
  obtain ⟨A, hA⟩ : ∃ A : ByteArray, A = ⟨(expL K T M).toArray⟩ := ⟨_, rfl⟩
  have hAs : A.size = M := by rw [hA]; show (expL K T M).toArray.size = M; rw [List.size_toArray, expL_len]
  rw [← hA] at cX
  obtain ⟨L, hL⟩ : ∃ L : ByteArray, L = ⟨(expT K T N).toArray⟩ := ⟨_, rfl⟩
  have exL : A.extract Q M = L := by rw [hA, hL, hM, hQ, hq]; exact exp_last K T q
  obtain ⟨ah, hah⟩ : ∃ ah : ByteArray, ah = ⟨(expT K T q).toArray⟩ := ⟨_, rfl⟩
  have hahd : ah.data.toList = expT K T q := by rw [hah]
  have hahs : ah.size ≤ 32 := by have h1 := expT_le K T q; have h2 : ah.data.toList.length = ah.size := by simp
                                 rw [hahd] at h2; omega
  have wB : IntKind.u8.wrap (N : Int) = bt (UInt8.ofNat N) := ofNat_wrap N (by omega)
  obtain ⟨x, hx⟩ : ∃ x, x = UInt8.ofNat N := ⟨_, rfl⟩
  rw [← hx] at wB
  obtain ⟨sx, hsx⟩ : ∃ sx : ByteArray, sx = ⟨#[x]⟩ := ⟨_, rfl⟩
  have hss : sx.size = 1 := by rw [hsx]; rfl
  obtain ⟨sy, hsy⟩ : ∃ sy : ByteArray, sy = ⟨#[0, 0, 0, x]⟩ := ⟨_, rfl⟩
  have hys : sy.size = 4 := by rw [hsy]; rfl
  have hcv : ∀ w' g, At w' g 5 [.int .u8 (bt x)] → (convert 59 9 (.slice (some ⟨g, 0, none⟩) 1 1)).run Tryd.prog w' = .ok (.string sx) w' := fun w' g h => by
    rw [hsx]; exact run_strB (P := Tryd.prog) (d := 9) Tryd.underlying59 Tryd.underlying5 Tryd.underlying9 w' g 0 1 5 [x] [] [] h rfl 1 rfl
  have hcw : ∀ w' g, At w' g 5 [.int .u8 0, .int .u8 0, .int .u8 0, .int .u8 (bt x)] → (convert 59 9 (.slice (some ⟨g, 0, none⟩) 4 4)).run Tryd.prog w' = .ok (.string sy) w' := fun w' g h => by
    rw [hsy]; exact run_strB (P := Tryd.prog) (d := 9) Tryd.underlying59 Tryd.underlying5 Tryd.underlying9 w' g 0 4 5 [0, 0, 0, x] [] [] h rfl 4 rfl
  have k1 : ¬ 9223372036854775807 < ah.size + text.size := by omega
  have k2 : ¬ 9223372036854775807 < (ah ++ text).size + sx.size := by rw [ByteArray.size_append]; omega
  have k4 : ¬ 9223372036854775807 < ah.size + text.size + sx.size := by omega
  have k3 : ¬ 9223372036854775807 < text.size + sy.size := by omega
  have cL := cK ((ah ++ text) ++ sx) (by rw [ByteArray.size_append, ByteArray.size_append]; omega)
  have eL : ((ah ++ text) ++ sx).data.toList = expT K T q ++ T ++ [UInt8.ofNat (q + 1)] := by
    rw [ByteArray.data_append, ByteArray.data_append, Array.toList_append, Array.toList_append, hahd, ← hT, hsx, hx, hq]
  have eT : expT K T N = hmacL K (expT K T q ++ T ++ [UInt8.ofNat (q + 1)]) := by rw [hq]; rfl
  rw [eL, ← eT, ← hL] at cL
  have cU := cK (text ++ sy) (by rw [ByteArray.size_append]; omega)
  have eU : (text ++ sy).data.toList = pbS T (q + 1) := by
    rw [ByteArray.data_append, Array.toList_append, ← hT, hsy, hx, hq]; rfl
  rw [eU] at cU
  have exA : ∀ p : Nat, q = p + 1 → A.extract (32 * p) Q = ah := fun p hp => by
    rw [hA, hah, hM, hQ, hq, hp]; exact exp_ahead K T p
  have hbd : Q ≤ M := by omega
  have hbd2 : (Q : Int) ≤ M := by omega
  have eah : q = 0 → (⟨#[]⟩ : ByteArray) = ah := fun h => by rw [hah, h]; rfl
  rw [v5]
  clear v5 hA hah hahd hahs hL hx hsx hsy hss hys eL eT eU hk ht
  refine (cX _ (hI.keep hF) (hR.keep hF (by simp))).mono ?_
  rintro e w5 ⟨rfl, f5⟩
  have hF := hF.trans f5
  have HX := Lib.hid exA
  have HE := Lib.hid eah
  have HU := Lib.hid (And.intro hbd (And.intro hK hT))
  have HQ := Lib.hid (And.intro hq (And.intro hM hQ))
  clear exA eah hbd hK hT
  rcases Nat.eq_zero_or_pos q with hq0 | hq0
  · have g1 : ¬ (1 : Int) < N := by omega
    have ez := HE.out hq0
    have hbd := HU.out.1
    clear HE HX hN1 hN2 hq hM hQ hq0 hKl
    go_wp2_with (first
      | (go_at_call 21; refine (num3_any _ _).mono ?_; rintro e w6 ⟨rfl, rfl⟩)
      | fail)
    simp only [ez]
    clear ez
    refine wp_region_until (fun _ => True) (fun _ => True) 1000 (by rfl) ?_
    have hT : True := trivial
    refine until_s0 0 (v := ?_) rfl (by kernel_rfl) (fun _ _ _ h => h) (Or.inl ⟨by rfl, ?_⟩) (by assumption) (fun h => by first | assumption | exact absurd (h : true = false) (by decide)) ?_
    rotate_left
    · intro w hSw; (try dsimp only at hSw); (try go_simp); (try with_reducible rfl)
    try simp only [Act.put, List.setIfInBounds_toArray, List.set_cons_zero, List.set_cons_succ]
    refine until_s0 1 (v := ?_) rfl (by kernel_rfl) (fun _ _ _ h => h) (Or.inl ⟨by rfl, ?_⟩) (by assumption) (fun h => by first | assumption | exact absurd (h : true = false) (by decide)) ?_
    rotate_left
    · intro w hSw; (try dsimp only at hSw); (try go_simp); (try with_reducible rfl)
    try simp only [Act.put, List.setIfInBounds_toArray, List.set_cons_zero, List.set_cons_succ]
    refine until_s0 2 (v := ?_) rfl (by kernel_rfl) (fun _ _ _ h => h) (Or.inl ⟨by rfl, ?_⟩) (by assumption) (fun h => by first | assumption | exact absurd (h : true = false) (by decide)) ?_
    rotate_left
    · intro w hSw; (try dsimp only at hSw); (try go_simp); (try with_reducible rfl)
    try simp only [Act.put, List.setIfInBounds_toArray, List.set_cons_zero, List.set_cons_succ]
    refine until_s0 3 (v := ?_) rfl (by kernel_rfl) (fun _ _ _ h => h) (Or.inl ⟨by rfl, ?_⟩) (by assumption) (fun h => by first | assumption | exact absurd (h : true = false) (by decide)) ?_
    rotate_left
    · intro w hSw; (try dsimp only at hSw); (try go_simp); (try with_reducible rfl)
    try simp only [Act.put, List.setIfInBounds_toArray, List.set_cons_zero, List.set_cons_succ]
    refine until_s0 4 (v := ?_) rfl (by kernel_rfl) (fun _ _ _ h => h) (Or.inl ⟨by rfl, ?_⟩) (by assumption) (fun h => by first | assumption | exact absurd (h : true = false) (by decide)) ?_
    rotate_left
    · intro w hSw; (try dsimp only at hSw); (try go_simp); (try with_reducible rfl)
    try simp only [Act.put, List.setIfInBounds_toArray, List.set_cons_zero, List.set_cons_succ]
    refine until_s0 5 (v := ?_) rfl (by kernel_rfl) (fun _ _ _ h => h) (Or.inl ⟨by rfl, ?_⟩) (by assumption) (fun h => by first | assumption | exact absurd (h : true = false) (by decide)) ?_
    rotate_left
    · intro w hSw; (try dsimp only at hSw); (try go_simp); (try with_reducible rfl)
    try simp only [Act.put, List.setIfInBounds_toArray, List.set_cons_zero, List.set_cons_succ]
    refine until_s0 6 (v := ?_) rfl (by kernel_rfl) (fun _ _ _ h => h) (Or.inl ⟨by rfl, ?_⟩) (by assumption) (fun h => by first | assumption | exact absurd (h : true = false) (by decide)) ?_
    rotate_left
    · intro w hSw; (try dsimp only at hSw); (try go_simp); (try with_reducible rfl)
    try simp only [Act.put, List.setIfInBounds_toArray, List.set_cons_zero, List.set_cons_succ]
    refine until_s0 7 (v := ?_) rfl (by kernel_rfl) (fun _ _ _ h => h) (Or.inl ⟨by rfl, ?_⟩) (by assumption) (fun h => by first | assumption | exact absurd (h : true = false) (by decide)) ?_
    rotate_left
    · intro w hSw; (try dsimp only at hSw); (try go_simp); (try with_reducible rfl)
    try simp only [Act.put, List.setIfInBounds_toArray, List.set_cons_zero, List.set_cons_succ]
    refine until_s0 8 (v := ?_) rfl (by kernel_rfl) (fun _ _ _ h => h) (Or.inl ⟨by rfl, ?_⟩) (by assumption) (fun h => by first | assumption | exact absurd (h : true = false) (by decide)) ?_
    rotate_left
    · intro w hSw; (try dsimp only at hSw); (try go_simp); (try with_reducible rfl)
    try simp only [Act.put, List.setIfInBounds_toArray, List.set_cons_zero, List.set_cons_succ]
    refine until_s0 9 (v := ?_) rfl (by kernel_rfl) (fun _ _ _ h => h) (Or.inl ⟨by rfl, ?_⟩) (by assumption) (fun h => by first | assumption | exact absurd (h : true = false) (by decide)) ?_
    rotate_left
    · intro w hSw; (try dsimp only at hSw); (try go_simp); (try with_reducible rfl)
    try simp only [Act.put, List.setIfInBounds_toArray, List.set_cons_zero, List.set_cons_succ]
    refine until_s0 10 (v := ?_) rfl (by kernel_rfl) (fun _ _ _ h => h) (Or.inl ⟨by rfl, ?_⟩) (by assumption) (fun h => by first | assumption | exact absurd (h : true = false) (by decide)) ?_
    rotate_left
    · intro w hSw; (try dsimp only at hSw); (try go_simp); (try with_reducible rfl)
    try simp only [Act.put, List.setIfInBounds_toArray, List.set_cons_zero, List.set_cons_succ]
    refine until_sole 11 rfl (by kernel_rfl) (by rfl) ?_
    intro K' hK
    go_simp
    have hF2 : Fr [] w (w5.drew.alloc (.cells #[Value.int .u8 (bt x)] 5)) := (hF.trans (Fr.drew _ _)).trans (Fr.alloc _ _ _)
    refine hK _ _ trivial (fun _ => trivial) ?_
    clear hK
    skip
    refine until_sole 12 rfl (by kernel_rfl) (by rfl) ?_
    intro K' hK
    have hcv1 := hcv _ _ (At.alloc_new w5 5 #[Value.int .u8 (bt x)]).drew
    go_simp
    refine hK _ _ trivial (fun _ => trivial) ?_
    clear hK hcv1
    refine until_s0 13 (v := ?_) rfl (by kernel_rfl) (fun _ _ _ h => h) (Or.inl ⟨by rfl, ?_⟩) (by assumption) (fun h => by first | assumption | exact absurd (h : true = false) (by decide)) ?_
    rotate_left
    · intro w hSw; (try dsimp only at hSw); (try go_simp); (try with_reducible rfl)
    try simp only [Act.put, List.setIfInBounds_toArray, List.set_cons_zero, List.set_cons_succ]
    refine until_sole 14 rfl (by kernel_rfl) (by rfl) ?_
    intro K' hK
    go_simp
    go_at_call 34
    refine (cL _ (hI.keep hF2) (hR.keep hF2 (by simp))).mono ?_
    rintro _ w7 ⟨rfl, f7⟩
    go_wp2_with fail
    have hF := hF2.trans f7
    refine hK _ _ trivial (fun _ => trivial) ?_
    clear hK hF2
    refine until_s0 15 (v := ?_) rfl (by kernel_rfl) (fun _ _ _ h => h) (Or.inl ⟨by rfl, ?_⟩) (by assumption) (fun h => by first | assumption | exact absurd (h : true = false) (by decide)) ?_
    rotate_left
    · intro w hSw; (try dsimp only at hSw); (try go_simp); (try with_reducible rfl)
    try simp only [Act.put, List.setIfInBounds_toArray, List.set_cons_zero, List.set_cons_succ]
    refine until_done (by kernel_rfl) ?_ _
    clear f7 cL hcv k1 k2 k4 exL hXs hT
    obtain ⟨s, hs⟩ : ∃ s, s = pbS T (q + 1) := ⟨_, rfl⟩
    rw [← hs] at cU
    obtain ⟨U1, hU1⟩ : ∃ U1 : ByteArray, U1 = ⟨(hmacL K s).toArray⟩ := ⟨_, rfl⟩
    rw [← hU1] at cU
    have hU1d : U1.data.toList = pbU K s 1 := by rw [hU1]; rfl
    have hU1f := pbF_one K s
    rw [← hU1d] at hU1f
    have HU1 := Lib.hid (And.intro hU1d hU1f.symm)
    have HS := Lib.hid hs
    have hcw2 := fun w' => hcw _ _ (At.alloc_new w' 5 #[.int .u8 0, .int .u8 0, .int .u8 0, .int .u8 (bt x)])
    have mk2 : True := trivial
    clear hU1 hU1d hU1f hs hcw
    go_wp2_with (first
      | (go_at_call 21; refine (num3_any _ _).mono ?_; rintro e w6 ⟨rfl, rfl⟩)
      | (go_at_call 17; clear mk2; refine (c2 _).mono ?_; clear c2; rintro e w8 ⟨n, hn0, hn1, rfl, f8⟩; obtain ⟨R, rfl⟩ : ∃ R : Nat, n = R := ⟨n.toNat, (by omega)⟩; have hF := hF.trans f8; have cP := cP R (by omega) (by omega); obtain ⟨B, hB⟩ : ∃ B : ByteArray, B = ⟨(pbL K T R M).toArray⟩ := ⟨_, rfl⟩; have hBs : B.size = M := (by rw [hB]; show (pbL K T R M).toArray.size = M; rw [List.size_toArray, pbL_len]); have exF : B.extract Q M = ⟨(pbF K s R).toArray⟩ := (by rw [hB, HQ.out.2.1, HQ.out.2.2, HQ.out.1, HS.out]; exact pass_last K T R q); rw [← hB] at cP; have HR := Lib.hid (And.intro hn0 hn1); have HF := Lib.hid exF; clear hn0 hn1 hB exF f8)
      | (go_at_call 32; refine (cP _ (hI.keep hF) (hR.keep hF (by simp))).mono ?_; clear cP; rintro e w9 ⟨rfl, f9⟩; have hF := hF.trans f9)
      | (go_at_call 34; refine (cU _ (hI.keep (hF.trans (Fr.alloc _ _ _))) (hR.keep (hF.trans (Fr.alloc _ _ _)) (by simp))).mono ?_; clear cU; rintro e w10 ⟨rfl, f10⟩; have hF := (hF.trans (Fr.alloc _ _ _)).trans f10)
      | fail)
    clear f9 f10 hcw2
    have hR1 := HR.out.1
    have hR2 := HR.out.2
    go_loopw [17, 18, 19] (fun v17 v18 v19 wr => ∃ (r : Nat) (u f : ByteArray), 1 ≤ r ∧ r ≤ R ∧ v19 = .int .i64 r ∧ v17 = .string u ∧ u.data.toList = pbU K s r ∧ v18 = .string f ∧ f.data.toList = pbF K s r ∧ Fr [] w wr) (fun _ _ v _ => R - (intOf v).toNat)
    case atStart => exact ⟨1, U1, U1, by omega, by omega, rfl, rfl, HU1.out.1, rfl, HU1.out.2, hF⟩
    case round =>
      clear hF
      obtain ⟨r, u, f, hr0, hrr, rfl, rfl, hu, rfl, hf, hF⟩ := hrel
      have hfs : f.size = 32 := by have : f.data.toList.length = f.size := by simp
                                   rw [hf, pbF_len] at this; omega
      by_cases hrl : r < R
      · have l3 : (r : Int) < R := by omega
        have hus : u.size = 32 := by
          have h1 : u.data.toList.length = u.size := by simp
          obtain ⟨r', rfl⟩ : ∃ r', r = r' + 1 := ⟨r - 1, by omega⟩
          rw [hu, pbU_len] at h1; omega
        have c2 := fun w' h1 h2 => cK u (by omega) w' h1 h2
        obtain ⟨u2, hu2⟩ : ∃ u2 : ByteArray, u2 = ⟨(hmacL K u.data.toList).toArray⟩ := ⟨_, rfl⟩
        have hu2d : u2.data.toList = pbU K s (r + 1) := by rw [hu2, hu]; rfl
        have hu2s : u2.size = 32 := by have : u2.data.toList.length = u2.size := by simp
                                       rw [hu2d, pbU_len] at this; omega
        rw [← hu2] at c2
        have c3 := xored3_any f u2 (by omega) (by omega)
        obtain ⟨f2, hf2⟩ : ∃ f2 : ByteArray, f2 = ⟨(xorL f.data.toList u2.data.toList).toArray⟩ := ⟨_, rfl⟩
        have hf2d : f2.data.toList = pbF K s (r + 1) := by rw [hf2, hf, hu2d]; rfl
        rw [← hf2] at c3
        have HR2 := Lib.hid (And.intro hu2d hf2d)
        clear hu2 hu2d hu2s hf2 hf2d hus hfs hu hf
        go_wp2_with (first
          | (go_at_call 34; refine (c2 _ (hI.keep hF) (hR.keep hF (by simp))).mono ?_; clear c2; rintro e w4 ⟨rfl, f4⟩; have hF := hF.trans f4)
          | (go_at_call 35; refine (c3 _).mono ?_; clear c3; rintro e w5 ⟨rfl, f5⟩; have hF := hF.trans f5)
          | fail)
        refine ⟨⟨r + 1, u2, f2, by omega, by omega, by simp, rfl, HR2.out.1, rfl, HR2.out.2, hF⟩, by simp only [intOf]; omega⟩
      · obtain rfl : r = R := by omega
        have exX : B.extract Q M = f := by
          rw [HF.out]
          apply ByteArray.ext
          apply Array.toList_inj.1
          rw [hf]
        clear hf hfs hu HF
        go_wp2_with fail
        go_ret
        exact ⟨rfl, hF⟩
  · obtain ⟨p, hp⟩ : ∃ p : Nat, q = p + 1 := ⟨q - 1, by omega⟩
    have exP := HX.out p hp
    obtain ⟨P, hP⟩ : ∃ P : Nat, P = 32 * p := ⟨_, rfl⟩
    rw [← hP] at exP
    have u1 : IntKind.i64.wrap ((N : Int) - 2) = (p : Int) := by rw [show (N : Int) - 2 = p by omega]; exact IntWalk.i64_in _ (by omega)
    have u2 : IntKind.i64.wrap (32 * (p : Int)) = (P : Int) := by rw [show 32 * (p : Int) = P by omega]; exact IntWalk.i64_in _ (by omega)
    have hbd := HU.out.1
    have hb1 : P ≤ Q := by omega
    have hb2 : (P : Int) ≤ Q := by omega
    have g1 : (1 : Int) < N := by omega
    clear HE HX hN1 hN2 hq hM hQ hq0 hKl hp hP
    go_wp2_with (first
      | (go_at_call 21; refine (num3_any _ _).mono ?_; rintro e w6 ⟨rfl, rfl⟩)
      | fail)
    refine wp_region_until (fun _ => True) (fun _ => True) 1000 (by rfl) ?_
    have hT : True := trivial
    refine until_s0 0 (v := ?_) rfl (by kernel_rfl) (fun _ _ _ h => h) (Or.inl ⟨by rfl, ?_⟩) (by assumption) (fun h => by first | assumption | exact absurd (h : true = false) (by decide)) ?_
    rotate_left
    · intro w hSw; (try dsimp only at hSw); (try go_simp); (try with_reducible rfl)
    try simp only [Act.put, List.setIfInBounds_toArray, List.set_cons_zero, List.set_cons_succ]
    refine until_s0 1 (v := ?_) rfl (by kernel_rfl) (fun _ _ _ h => h) (Or.inl ⟨by rfl, ?_⟩) (by assumption) (fun h => by first | assumption | exact absurd (h : true = false) (by decide)) ?_
    rotate_left
    · intro w hSw; (try dsimp only at hSw); (try go_simp); (try with_reducible rfl)
    try simp only [Act.put, List.setIfInBounds_toArray, List.set_cons_zero, List.set_cons_succ]
    refine until_s0 2 (v := ?_) rfl (by kernel_rfl) (fun _ _ _ h => h) (Or.inl ⟨by rfl, ?_⟩) (by assumption) (fun h => by first | assumption | exact absurd (h : true = false) (by decide)) ?_
    rotate_left
    · intro w hSw; (try dsimp only at hSw); (try go_simp); (try with_reducible rfl)
    try simp only [Act.put, List.setIfInBounds_toArray, List.set_cons_zero, List.set_cons_succ]
    refine until_s0 3 (v := ?_) rfl (by kernel_rfl) (fun _ _ _ h => h) (Or.inl ⟨by rfl, ?_⟩) (by assumption) (fun h => by first | assumption | exact absurd (h : true = false) (by decide)) ?_
    rotate_left
    · intro w hSw; (try dsimp only at hSw); (try go_simp); (try with_reducible rfl)
    try simp only [Act.put, List.setIfInBounds_toArray, List.set_cons_zero, List.set_cons_succ]
    refine until_s0 4 (v := ?_) rfl (by kernel_rfl) (fun _ _ _ h => h) (Or.inl ⟨by rfl, ?_⟩) (by assumption) (fun h => by first | assumption | exact absurd (h : true = false) (by decide)) ?_
    rotate_left
    · intro w hSw; (try dsimp only at hSw); (try go_simp); (try with_reducible rfl)
    try simp only [Act.put, List.setIfInBounds_toArray, List.set_cons_zero, List.set_cons_succ]
    refine until_s0 5 (v := ?_) rfl (by kernel_rfl) (fun _ _ _ h => h) (Or.inl ⟨by rfl, ?_⟩) (by assumption) (fun h => by first | assumption | exact absurd (h : true = false) (by decide)) ?_
    rotate_left
    · intro w hSw; (try dsimp only at hSw); (try go_simp); (try with_reducible rfl)
    try simp only [Act.put, List.setIfInBounds_toArray, List.set_cons_zero, List.set_cons_succ]
    refine until_s0 6 (v := ?_) rfl (by kernel_rfl) (fun _ _ _ h => h) (Or.inl ⟨by rfl, ?_⟩) (by assumption) (fun h => by first | assumption | exact absurd (h : true = false) (by decide)) ?_
    rotate_left
    · intro w hSw; (try dsimp only at hSw); (try go_simp); (try with_reducible rfl)
    try simp only [Act.put, List.setIfInBounds_toArray, List.set_cons_zero, List.set_cons_succ]
    refine until_s0 7 (v := ?_) rfl (by kernel_rfl) (fun _ _ _ h => h) (Or.inl ⟨by rfl, ?_⟩) (by assumption) (fun h => by first | assumption | exact absurd (h : true = false) (by decide)) ?_
    rotate_left
    · intro w hSw; (try dsimp only at hSw); (try go_simp); (try with_reducible rfl)
    try simp only [Act.put, List.setIfInBounds_toArray, List.set_cons_zero, List.set_cons_succ]
    refine until_s0 8 (v := ?_) rfl (by kernel_rfl) (fun _ _ _ h => h) (Or.inl ⟨by rfl, ?_⟩) (by assumption) (fun h => by first | assumption | exact absurd (h : true = false) (by decide)) ?_
    rotate_left
    · intro w hSw; (try dsimp only at hSw); (try go_simp); (try with_reducible rfl)
    try simp only [Act.put, List.setIfInBounds_toArray, List.set_cons_zero, List.set_cons_succ]
    refine until_s0 9 (v := ?_) rfl (by kernel_rfl) (fun _ _ _ h => h) (Or.inl ⟨by rfl, ?_⟩) (by assumption) (fun h => by first | assumption | exact absurd (h : true = false) (by decide)) ?_
    rotate_left
    · intro w hSw; (try dsimp only at hSw); (try go_simp); (try with_reducible rfl)
    try simp only [Act.put, List.setIfInBounds_toArray, List.set_cons_zero, List.set_cons_succ]
    refine until_s0 10 (v := ?_) rfl (by kernel_rfl) (fun _ _ _ h => h) (Or.inl ⟨by rfl, ?_⟩) (by assumption) (fun h => by first | assumption | exact absurd (h : true = false) (by decide)) ?_
    rotate_left
    · intro w hSw; (try dsimp only at hSw); (try go_simp); (try with_reducible rfl)
    try simp only [Act.put, List.setIfInBounds_toArray, List.set_cons_zero, List.set_cons_succ]
    refine until_sole 11 rfl (by kernel_rfl) (by rfl) ?_
    intro K' hK
    go_simp
    have hF2 : Fr [] w (w5.drew.alloc (.cells #[Value.int .u8 (bt x)] 5)) := (hF.trans (Fr.drew _ _)).trans (Fr.alloc _ _ _)
    refine hK _ _ trivial (fun _ => trivial) ?_
    clear hK
    skip
    refine until_sole 12 rfl (by kernel_rfl) (by rfl) ?_
    intro K' hK
    have hcv1 := hcv _ _ (At.alloc_new w5 5 #[Value.int .u8 (bt x)]).drew
    go_simp
    refine hK _ _ trivial (fun _ => trivial) ?_
    clear hK hcv1
    refine until_s0 13 (v := ?_) rfl (by kernel_rfl) (fun _ _ _ h => h) (Or.inl ⟨by rfl, ?_⟩) (by assumption) (fun h => by first | assumption | exact absurd (h : true = false) (by decide)) ?_
    rotate_left
    · intro w hSw; (try dsimp only at hSw); (try go_simp); (try with_reducible rfl)
    try simp only [Act.put, List.setIfInBounds_toArray, List.set_cons_zero, List.set_cons_succ]
    refine until_sole 14 rfl (by kernel_rfl) (by rfl) ?_
    intro K' hK
    go_simp
    go_at_call 34
    refine (cL _ (hI.keep hF2) (hR.keep hF2 (by simp))).mono ?_
    rintro _ w7 ⟨rfl, f7⟩
    go_wp2_with fail
    have hF := hF2.trans f7
    refine hK _ _ trivial (fun _ => trivial) ?_
    clear hK hF2
    refine until_s0 15 (v := ?_) rfl (by kernel_rfl) (fun _ _ _ h => h) (Or.inl ⟨by rfl, ?_⟩) (by assumption) (fun h => by first | assumption | exact absurd (h : true = false) (by decide)) ?_
    rotate_left
    · intro w hSw; (try dsimp only at hSw); (try go_simp); (try with_reducible rfl)
    try simp only [Act.put, List.setIfInBounds_toArray, List.set_cons_zero, List.set_cons_succ]
    refine until_done (by kernel_rfl) ?_ _
    clear f7 cL hcv k1 k2 k4 exL hXs hT
    obtain ⟨s, hs⟩ : ∃ s, s = pbS T (q + 1) := ⟨_, rfl⟩
    rw [← hs] at cU
    obtain ⟨U1, hU1⟩ : ∃ U1 : ByteArray, U1 = ⟨(hmacL K s).toArray⟩ := ⟨_, rfl⟩
    rw [← hU1] at cU
    have hU1d : U1.data.toList = pbU K s 1 := by rw [hU1]; rfl
    have hU1f := pbF_one K s
    rw [← hU1d] at hU1f
    have HU1 := Lib.hid (And.intro hU1d hU1f.symm)
    have HS := Lib.hid hs
    have hcw2 := fun w' => hcw _ _ (At.alloc_new w' 5 #[.int .u8 0, .int .u8 0, .int .u8 0, .int .u8 (bt x)])
    have mk2 : True := trivial
    clear hU1 hU1d hU1f hs hcw
    go_wp2_with (first
      | (go_at_call 21; refine (num3_any _ _).mono ?_; rintro e w6 ⟨rfl, rfl⟩)
      | (go_at_call 17; clear mk2; refine (c2 _).mono ?_; clear c2; rintro e w8 ⟨n, hn0, hn1, rfl, f8⟩; obtain ⟨R, rfl⟩ : ∃ R : Nat, n = R := ⟨n.toNat, (by omega)⟩; have hF := hF.trans f8; have cP := cP R (by omega) (by omega); obtain ⟨B, hB⟩ : ∃ B : ByteArray, B = ⟨(pbL K T R M).toArray⟩ := ⟨_, rfl⟩; have hBs : B.size = M := (by rw [hB]; show (pbL K T R M).toArray.size = M; rw [List.size_toArray, pbL_len]); have exF : B.extract Q M = ⟨(pbF K s R).toArray⟩ := (by rw [hB, HQ.out.2.1, HQ.out.2.2, HQ.out.1, HS.out]; exact pass_last K T R q); rw [← hB] at cP; have HR := Lib.hid (And.intro hn0 hn1); have HF := Lib.hid exF; clear hn0 hn1 hB exF f8)
      | (go_at_call 32; refine (cP _ (hI.keep hF) (hR.keep hF (by simp))).mono ?_; clear cP; rintro e w9 ⟨rfl, f9⟩; have hF := hF.trans f9)
      | (go_at_call 34; refine (cU _ (hI.keep (hF.trans (Fr.alloc _ _ _))) (hR.keep (hF.trans (Fr.alloc _ _ _)) (by simp))).mono ?_; clear cU; rintro e w10 ⟨rfl, f10⟩; have hF := (hF.trans (Fr.alloc _ _ _)).trans f10)
      | fail)
    clear f9 f10 hcw2
    have hR1 := HR.out.1
    have hR2 := HR.out.2
    go_loopw [17, 18, 19] (fun v17 v18 v19 wr => ∃ (r : Nat) (u f : ByteArray), 1 ≤ r ∧ r ≤ R ∧ v19 = .int .i64 r ∧ v17 = .string u ∧ u.data.toList = pbU K s r ∧ v18 = .string f ∧ f.data.toList = pbF K s r ∧ Fr [] w wr) (fun _ _ v _ => R - (intOf v).toNat)
    case atStart => exact ⟨1, U1, U1, by omega, by omega, rfl, rfl, HU1.out.1, rfl, HU1.out.2, hF⟩
    case round =>
      clear hF
      obtain ⟨r, u, f, hr0, hrr, rfl, rfl, hu, rfl, hf, hF⟩ := hrel
      have hfs : f.size = 32 := by have : f.data.toList.length = f.size := by simp
                                   rw [hf, pbF_len] at this; omega
      by_cases hrl : r < R
      · have l3 : (r : Int) < R := by omega
        have hus : u.size = 32 := by
          have h1 : u.data.toList.length = u.size := by simp
          obtain ⟨r', rfl⟩ : ∃ r', r = r' + 1 := ⟨r - 1, by omega⟩
          rw [hu, pbU_len] at h1; omega
        have c2 := fun w' h1 h2 => cK u (by omega) w' h1 h2
        obtain ⟨u2, hu2⟩ : ∃ u2 : ByteArray, u2 = ⟨(hmacL K u.data.toList).toArray⟩ := ⟨_, rfl⟩
        have hu2d : u2.data.toList = pbU K s (r + 1) := by rw [hu2, hu]; rfl
        have hu2s : u2.size = 32 := by have : u2.data.toList.length = u2.size := by simp
                                       rw [hu2d, pbU_len] at this; omega
        rw [← hu2] at c2
        have c3 := xored3_any f u2 (by omega) (by omega)
        obtain ⟨f2, hf2⟩ : ∃ f2 : ByteArray, f2 = ⟨(xorL f.data.toList u2.data.toList).toArray⟩ := ⟨_, rfl⟩
        have hf2d : f2.data.toList = pbF K s (r + 1) := by rw [hf2, hf, hu2d]; rfl
        rw [← hf2] at c3
        have HR2 := Lib.hid (And.intro hu2d hf2d)
        clear hu2 hu2d hu2s hf2 hf2d hus hfs hu hf
        go_wp2_with (first
          | (go_at_call 34; refine (c2 _ (hI.keep hF) (hR.keep hF (by simp))).mono ?_; clear c2; rintro e w4 ⟨rfl, f4⟩; have hF := hF.trans f4)
          | (go_at_call 35; refine (c3 _).mono ?_; clear c3; rintro e w5 ⟨rfl, f5⟩; have hF := hF.trans f5)
          | fail)
        refine ⟨⟨r + 1, u2, f2, by omega, by omega, by simp, rfl, HR2.out.1, rfl, HR2.out.2, hF⟩, by simp only [intOf]; omega⟩
      · obtain rfl : r = R := by omega
        have exX : B.extract Q M = f := by
          rw [HF.out]
          apply ByteArray.ext
          apply Array.toList_inj.1
          rw [hf]
        clear hf hfs hu HF
        go_wp2_with fail
        go_ret
        exact ⟨rfl, hF⟩
end Go.Proofs.YtbpaknnnkmjgjaaDoor
