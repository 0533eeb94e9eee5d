/- The law's small functions: numbers within limits, the xor of two texts, a split that may be. -/
import Derived.Test.YtffhfmaphjjffaaDoorSized26
import Derived.Test.YtffhfmaphjjffaaDoorShrSplit
import Derived.Test.YtffhfmaphjjffaaDoorUntil
namespace Go.Proofs.YtffhfmaphjjffaaDoor
open Go.RowKit Go.Lib Go.Joins Base
set_option linter.unusedVariables false
set_option linter.unusedSimpArgs false

def xorL (a b : List UInt8) : List UInt8 := List.zipWith (fun x y => x ^^^ y) a b
theorem xorL_len (a b : List UInt8) (h : a.length = b.length) : (xorL a b).length = a.length := by simp [xorL]; omega
theorem xorL_get (a b : List UInt8) (i : Nat) (h1 : i < a.length) (h2 : i < b.length) : (xorL a b).getD i 0 = a.getD i 0 ^^^ b.getD i 0 := by
  simp [xorL, List.getD, List.getElem?_zipWith, h1, h2]
theorem tmod_range (n H : Int) (h : 0 < H) : -H < n.tmod H ∧ n.tmod H < H := by
  refine ⟨?_, Int.tmod_lt_of_pos _ h⟩
  have := Int.tmod_lt_of_pos (-n) h
  rw [Int.neg_tmod] at this; omega
set_option maxRecDepth 100000 in
theorem clipped_any (n low high : Int) (hn : -9223372036854775808 ≤ n ∧ n ≤ 9223372036854775807) (h0 : 0 ≤ low) (h1 : low ≤ high) (h2 : high ≤ 1048576) (w : World) :
    Calls Tryd.prog 27 #[.int .i64 n, .int .i64 low, .int .i64 high] w fun e w' => ∃ r, low ≤ r ∧ r ≤ high ∧ e = .returned (.int .i64 r) ∧ Fr [] w w' := by
  obtain ⟨hr1, hr2⟩ := tmod_range n (high - low + 1) (by omega)
  have w1 : IntKind.i64.wrap (high - low) = high - low := IntWalk.i64_in _ (by omega)
  have w2 : IntKind.i64.wrap (high - low + 1) = high - low + 1 := IntWalk.i64_in _ (by omega)
  have hz : high - low + 1 ≠ 0 := by omega
  have e1 : ∀ t, binOp .rem t (.int .i64 n) (.int .i64 (high - low + 1)) = pure (.int .i64 (n.tmod (high - low + 1))) := by
    intro t
    simp only [binOp, Op.intDiv]
    rw [if_neg (by simp)]
    rw [if_neg hz]
  generalize n.tmod (high - low + 1) = m at hr1 hr2 e1
  by_cases hm : m < 0
  · have w3 : IntKind.i64.wrap (m + high) = m + high := IntWalk.i64_in _ (by omega)
    have w4 : IntKind.i64.wrap (m + high - low) = m + high - low := IntWalk.i64_in _ (by omega)
    have w5 : IntKind.i64.wrap (m + high - low + 1) = m + high - low + 1 := IntWalk.i64_in _ (by omega)
    have w6 : IntKind.i64.wrap (low + (m + high - low + 1)) = low + (m + high - low + 1) := IntWalk.i64_in _ (by omega)
    go_enter Tryd.func27, Tryd.ntmps27
    go_wp2_with fail
    go_ret
    exact ⟨_, by omega, by omega, rfl, Fr.refl _ _⟩
  · have w6 : IntKind.i64.wrap (low + m) = low + m := IntWalk.i64_in _ (by omega)
    go_enter Tryd.func27, Tryd.ntmps27
    go_wp2_with fail
    go_ret
    exact ⟨_, by omega, by omega, rfl, Fr.refl _ _⟩

set_option maxRecDepth 100000 in
set_option maxHeartbeats 1000000 in
theorem xored26_any (a b : ByteArray) (h : a.size = b.size) (ha : a.size ≤ 1048576) (w : World) :
    Calls Tryd.prog 18 #[.string a, .string b] w fun e w' => e = .returned (.string ⟨(xorL a.data.toList b.data.toList).toArray⟩) ∧ Fr [] w w' := by
  have hi5 : (Tryd.prog.info? 5).map (fun i => (i.zero, i.size, i.bytes)) = some (some (.int .u8 0), 1, 1) := by kernel_rfl
  obtain ⟨iI, hiI, hz0, hz1, hz2⟩ := info_parts hi5
  have hal : a.data.toList.length = a.size := by simp
  have hbl : b.data.toList.length = b.size := by simp
  obtain ⟨X, hX⟩ : ∃ X, X = xorL a.data.toList b.data.toList := ⟨_, rfl⟩
  have hXl : X.length = a.size := by rw [hX, xorL_len _ _ (by omega), hal]
  have hXg : ∀ i, i < a.size → X.getD i 0 = a.data.toList.getD i 0 ^^^ b.data.toList.getD i 0 := fun i hi => by rw [hX]; exact xorL_get _ _ i (by omega) (by omega)
  have HX := Lib.hid (And.intro hX hXg)
  have hb2 : b.size = a.size := h.symm
  have HH := Lib.hid h
  clear hX hXg hal hbl h hb2
  go_enter Tryd.func18, Tryd.ntmps18
  go_wp2_with fail
  go_loopw [5, 6] (fun v5 v6 wr => ∃ i : Nat, i ≤ a.size ∧ v6 = .int .i64 i ∧ wr.ownsRow w.heap.size 5 1 v5 i (byteCells (X.take i)) ∧ Below w.heap.size w wr) (fun _ v _ => a.size - (intOf v).toNat)
  case atStart => exact ⟨0, by omega, rfl, World.ownsRow_nil _ _ _ _, Below.refl _ _⟩
  case round =>
    obtain ⟨i, hi, rfl, h0, hB⟩ := hrel
    have hsz := hB.size
    by_cases hl : i < a.size
    · have l1 : (i : Int) < a.size := by omega
      have hl2 : i < b.size := by have := HH.out; omega
      have l2 : (i : Int) < b.size := by omega
      obtain ⟨y, hy⟩ : ∃ y, y = X.getD i 0 := ⟨_, rfl⟩
      have HT : Hid (X.take (i + 1) = X.take i ++ [y]) := Lib.hid (by rw [List.take_add_one, List.getElem?_eq_getElem (by omega), hy]; simp [List.getD, show i < X.length by omega])
      obtain ⟨x1, hx1⟩ : ∃ x, x = a.data.toList.getD i 0 := ⟨_, rfl⟩
      have g1 : a[i] = x1 := bget _ (by have hp0 : i < a.data.size := hl; rw [hx1, List.getD, Array.getElem?_toList, Array.getElem?_eq_getElem hp0]; rfl)
      obtain ⟨x2, hx2⟩ : ∃ x, x = b.data.toList.getD i 0 := ⟨_, rfl⟩
      have g2 : b[i] = x2 := bget _ (by have hp0 : i < b.data.size := hl2; rw [hx2, List.getD, Array.getElem?_toList, Array.getElem?_eq_getElem hp0]; rfl)
      have x3 : ∀ t, binOp .xor t (.int .u8 (x1.toNat : Int)) (.int .u8 (x2.toNat : Int)) = pure (.int .u8 (bt y)) := fun t => by rw [hy, HX.out.2 i hl, ← hx1, ← hx2]; exact binOp_xor8 t x1 x2
      have A2 := At.alloc_new wr.drew 5 #[Value.int .u8 (bt y)]
      clear hx1 hx2 hy
      go_wp2_with fail
      refine wp_region_until (fun _ => True) (fun _ => True) 1000 (by rfl) ?_
      have hT : True := trivial
      refine until_s0 0 (v := ?_) rfl (by kernel_rfl) (fun _ _ _ h => h) (Or.inl ⟨by rfl, ?_⟩) (by assumption) (fun h => by first | assumption | exact absurd (h : true = false) (by decide)) ?_
      rotate_left
      · intro w hSw; (try dsimp only at hSw); (try go_simp); (try with_reducible rfl)
      try simp only [Act.put, List.setIfInBounds_toArray, List.set_cons_zero, List.set_cons_succ]
      refine until_s0 1 (v := ?_) rfl (by kernel_rfl) (fun _ _ _ h => h) (Or.inl ⟨by rfl, ?_⟩) (by assumption) (fun h => by first | assumption | exact absurd (h : true = false) (by decide)) ?_
      rotate_left
      · intro w hSw; (try dsimp only at hSw); (try go_simp); (try with_reducible rfl)
      try simp only [Act.put, List.setIfInBounds_toArray, List.set_cons_zero, List.set_cons_succ]
      refine until_s0 2 (v := ?_) rfl (by kernel_rfl) (fun _ _ _ h => h) (Or.inl ⟨by rfl, ?_⟩) (by assumption) (fun h => by first | assumption | exact absurd (h : true = false) (by decide)) ?_
      rotate_left
      · intro w hSw; (try dsimp only at hSw); (try go_simp); (try with_reducible rfl)
      try simp only [Act.put, List.setIfInBounds_toArray, List.set_cons_zero, List.set_cons_succ]
      refine until_s0 3 (v := ?_) rfl (by kernel_rfl) (fun _ _ _ h => h) (Or.inl ⟨by rfl, ?_⟩) (by assumption) (fun h => by first | assumption | exact absurd (h : true = false) (by decide)) ?_
      rotate_left
      · intro w hSw; (try dsimp only at hSw); (try go_simp); (try with_reducible rfl)
      try simp only [Act.put, List.setIfInBounds_toArray, List.set_cons_zero, List.set_cons_succ]
      refine until_s0 4 (v := ?_) rfl (by kernel_rfl) (fun _ _ _ h => h) (Or.inl ⟨by rfl, ?_⟩) (by assumption) (fun h => by first | assumption | exact absurd (h : true = false) (by decide)) ?_
      rotate_left
      · intro w hSw; (try dsimp only at hSw); (try go_simp); (try with_reducible rfl)
      try simp only [Act.put, List.setIfInBounds_toArray, List.set_cons_zero, List.set_cons_succ]
      refine until_s0 5 (v := ?_) rfl (by kernel_rfl) (fun _ _ _ h => h) (Or.inl ⟨by rfl, ?_⟩) (by assumption) (fun h => by first | assumption | exact absurd (h : true = false) (by decide)) ?_
      rotate_left
      · intro w hSw; (try dsimp only at hSw); (try go_simp); (try with_reducible rfl)
      try simp only [Act.put, List.setIfInBounds_toArray, List.set_cons_zero, List.set_cons_succ]
      refine until_s0 6 (v := ?_) rfl (by kernel_rfl) (fun _ _ _ h => h) (Or.inl ⟨by rfl, ?_⟩) (by assumption) (fun h => by first | assumption | exact absurd (h : true = false) (by decide)) ?_
      rotate_left
      · intro w hSw; (try dsimp only at hSw); (try go_simp); (try with_reducible rfl)
      try simp only [Act.put, List.setIfInBounds_toArray, List.set_cons_zero, List.set_cons_succ]
      refine until_s0 7 (v := ?_) rfl (by kernel_rfl) (fun _ _ _ h => h) (Or.inl ⟨by rfl, ?_⟩) (by assumption) (fun h => by first | assumption | exact absurd (h : true = false) (by decide)) ?_
      rotate_left
      · intro w hSw; (try dsimp only at hSw); (try go_simp); (try with_reducible rfl)
      try simp only [Act.put, List.setIfInBounds_toArray, List.set_cons_zero, List.set_cons_succ]
      refine until_sole 8 rfl (by kernel_rfl) (by rfl) ?_
      intro K' hK
      go_simp
      refine hK _ _ trivial (fun _ => trivial) ?_
      clear hK
      skip
      refine until_sole 9 rfl (by kernel_rfl) (by rfl) ?_
      intro K' hK
      refine wp_append_own _ _ _ _ rfl w.heap.size 5 iI (.int .u8 0) 1 1 Tryd.underlying55 hiI hz0 hz1 hz2 rfl (by decide) _ i _ rfl (World.ownsRow.alloc (World.ownsRow.drew h0) _) ⟨wr.heap.size, 0, none⟩ 1 1 (byteCells [y]) rfl rfl ?_ ?_ ?_ ?_ ?_ ?_
      case refine_1 => intro j u hj; rw [addr_add', Nat.zero_add]; exact (A2.cell j).trans hj
      case refine_2 => exact byteCells_one _
      case refine_3 => simp [maxLen]; omega
      case refine_4 => omega
      case refine_5 => simp; omega
      intro v' w' hown hgr _
      refine hK _ _ trivial (fun _ => trivial) ?_
      clear hK
      refine until_s0 10 (v := ?_) rfl (by kernel_rfl) (fun _ _ _ h => h) (Or.inl ⟨by rfl, ?_⟩) (by assumption) (fun h => by first | assumption | exact absurd (h : true = false) (by decide)) ?_
      rotate_left
      · intro w hSw; (try dsimp only at hSw); (try go_simp); (try with_reducible rfl)
      try simp only [Act.put, List.setIfInBounds_toArray, List.set_cons_zero, List.set_cons_succ]
      refine until_done (by kernel_rfl) ?_ _
      go_wp2_with fail
      refine ⟨⟨i + 1, by omega, by simp, by rw [HT.out]; simpa [byteCells] using hown, (hB.drew.alloc (by show w.heap.size ≤ wr.heap.size; omega) _).grown hgr (by simp; omega) (fun x hx => (h0.lt x hx).1)⟩, by simp only [intOf]; omega⟩
    · obtain rfl : i = a.size := by omega
      rw [List.take_of_length_le (by omega)] at h0
      have hcv := run_strOwn Tryd.underlying55 Tryd.underlying5 Tryd.underlying9 h0
      go_wp2_with fail
      go_ret
      exact ⟨by rw [← HX.out.1]; rfl, Fr.ofBelow hB⟩


theorem num26_any (c : Int) (w : World) : Calls Tryd.prog 13 #[.int .i64 c] w fun e w' => e = .returned (.int .i64 c) ∧ w = w' := by
  go_enter Tryd.func13, Tryd.ntmps13
  go_wp2_with fail
  go_ret
  exact ⟨rfl, rfl⟩

def aggC (m : ByteArray) (n k : Int) (i c : ByteArray) : Array Value := #[.string m, .int .i64 n, .int .i64 k, .string i, .string c]
set_option maxRecDepth 100000 in
set_option maxHeartbeats 2000000 in
theorem right_any (m i c : ByteArray) (n k : Int) (hm : m.size ≤ 140737488351232) (hi : i.size ≤ 140737488351232) (hc : c.size ≤ 140737488351232) (hn : -9223372036854775808 ≤ n ∧ n ≤ 9223372036854775807) (hk : -9223372036854775808 ≤ k ∧ k ≤ 9223372036854775807) (w : World) :
    Calls Tryd.prog 16 #[.agg #[.string m, .int .i64 n, .int .i64 k, .string i, .string c]] w fun e w' => ∃ (m' i' c' : ByteArray) (N K : Nat), e = .returned (.agg #[.string m', .int .i64 N, .int .i64 K, .string i', .string c']) ∧ m'.size = 32 ∧ i'.size = 8 ∧ 1 ≤ K ∧ K ≤ N ∧ N ≤ 16 ∧ c'.size = 32 * (K - 1) ∧ Fr [] w w' := by
  have c1 := fun w => clipped_any n 1 16 hn (by omega) (by omega) (by omega) w
  have c2 := fun (N : Int) (h1 : 1 ≤ N) (h2 : N ≤ 16) w => clipped_any k 1 N hk (by omega) (by omega) (by omega) w
  have mk1 : True := trivial
  have A0 := At.alloc_new w 34 #[.string m, .int .i64 n, .int .i64 k, .string i, .string c]
  have hF := Fr.refl [] w
  have HH := Lib.hid (And.intro hm (And.intro hi hc))
  clear hn hk hm hi hc
  go_enter Tryd.func16, Tryd.ntmps16
  go_wp2_with (first
    | (go_at_call 27; clear mk1; refine (c1 _).mono ?_; clear c1; rintro e w1 ⟨r1, hr1, hr2, rfl, f1⟩; obtain ⟨N, rfl⟩ : ∃ N : Nat, r1 = N := ⟨r1.toNat, (by omega)⟩; have A1 := f1.keep (A0.alloc _) (by simp); have B1 := f1.keep (At.alloc_new2 _ _ _ _) (by simp); have q2 := A1.cell 2)
    | (go_at_call 27; refine (c2 _ hr1 hr2 _).mono ?_; clear c2; rintro e w2 ⟨r2, hr3, hr4, rfl, f2⟩; obtain ⟨K, rfl⟩ : ∃ K : Nat, r2 = K := ⟨r2.toNat, (by omega)⟩; have A2 := f2.keep A1 (by simp); have B2 := f2.keep B1 (by simp))
    | fail)
  have hF2 : Fr [] w w2 := (((Fr.alloc _ _ _).trans (Fr.alloc _ _ _)).trans f1).trans f2
  obtain ⟨hm, hi, hc⟩ := HH.out
  clear f1 f2 A0 A1 B1 q2 hF
  obtain ⟨p, hp⟩ : ∃ p, p = w.heap.size := ⟨_, rfl⟩
  rw [← hp] at A2 B2 ⊢
  have HP := Lib.hid hp
  clear hp
  have u1 : IntKind.i64.wrap ((K : Int) - 1) = (K : Int) - 1 := IntWalk.i64_in _ (by omega)
  have u2 : IntKind.i64.wrap (((K : Int) - 1) * 32) = ((32 * (K - 1) : Nat) : Int) := by rw [IntWalk.i64_in _ (by omega)]; omega
  have cM := fun w => sized_any m 32 hm (by omega) w
  have cI := fun w => sized_any i 8 hi (by omega) w
  have cC := fun w => sized_any c (32 * (K - 1)) hc (by omega) w
  obtain ⟨m', hm'⟩ : ∃ m' : ByteArray, m' = ⟨(sizedL m.data.toList 32).toArray⟩ := ⟨_, rfl⟩
  obtain ⟨i', hi'⟩ : ∃ i' : ByteArray, i' = ⟨(sizedL i.data.toList 8).toArray⟩ := ⟨_, rfl⟩
  obtain ⟨c', hc'⟩ : ∃ c' : ByteArray, c' = ⟨(sizedL c.data.toList (32 * (K - 1))).toArray⟩ := ⟨_, rfl⟩
  have hms : m'.size = 32 := by rw [hm']; show (sizedL _ _).toArray.size = 32; rw [List.size_toArray, sizedL_len]
  have his : i'.size = 8 := by rw [hi']; show (sizedL _ _).toArray.size = 8; rw [List.size_toArray, sizedL_len]
  have hcs : c'.size = 32 * (K - 1) := by rw [hc']; show (sizedL _ _).toArray.size = _; rw [List.size_toArray, sizedL_len]
  rw [← hm'] at cM
  rw [← hi'] at cI
  rw [← hc'] at cC
  have HS := Lib.hid (And.intro hms (And.intro his hcs))
  obtain ⟨M, hM⟩ : ∃ M : Nat, M = 32 * (K - 1) := ⟨_, rfl⟩
  rw [← hM] at u2 cC
  clear hm hi hc hm' hi' hc' hms his hcs hM
  refine wp_region_until (fun w' => At w' p 34 [.string m, .int .i64 n, .int .i64 k, .string i, .string c] ∧ w'.cell? ⟨p, 0, none⟩ = some (.string m) ∧ w'.cell? ⟨p, 3, none⟩ = some (.string i) ∧ w'.cell? ⟨p, 4, none⟩ = some (.string c)) (fun _ => True) 1000 (by rfl) ?_
  have hT : True := trivial
  have mkS : ∀ w', At w' p 34 [.string m, .int .i64 n, .int .i64 k, .string i, .string c] → At w' p 34 [.string m, .int .i64 n, .int .i64 k, .string i, .string c] ∧ w'.cell? ⟨p, 0, none⟩ = some (.string m) ∧ w'.cell? ⟨p, 3, none⟩ = some (.string i) ∧ w'.cell? ⟨p, 4, none⟩ = some (.string c) := fun w' h1 => ⟨h1, h1.cell 0, h1.cell 3, h1.cell 4⟩
  have s0 := mkS _ A2.drew
  refine until_s0 0 (v := ?_) rfl (by kernel_rfl) (fun _ _ _ h => h) (Or.inl ⟨by rfl, ?_⟩) (by assumption) (fun h => by first | assumption | exact absurd (h : true = false) (by decide)) ?_
  rotate_left
  · intro w hSw; (try dsimp only at hSw); (try go_simp); (try with_reducible rfl)
  try simp only [Act.put, List.setIfInBounds_toArray, List.set_cons_zero, List.set_cons_succ]
  refine until_s0 1 (v := ?_) rfl (by kernel_rfl) (fun _ _ _ h => h) (Or.inl ⟨by rfl, ?_⟩) (by assumption) (fun h => by first | assumption | exact absurd (h : true = false) (by decide)) ?_
  rotate_left
  · intro w hSw; (try dsimp only at hSw); (try go_simp); (try with_reducible rfl)
  try simp only [Act.put, List.setIfInBounds_toArray, List.set_cons_zero, List.set_cons_succ]
  refine until_s0 3 (v := ?_) rfl (by kernel_rfl) (fun _ _ _ h => h) (Or.inl ⟨by rfl, ?_⟩) (by assumption) (fun h => by first | assumption | exact absurd (h : true = false) (by decide)) ?_
  rotate_left
  · intro w hSw; (try dsimp only at hSw); (try go_simp); (try with_reducible rfl)
  try simp only [Act.put, List.setIfInBounds_toArray, List.set_cons_zero, List.set_cons_succ]
  refine until_s0 4 (v := ?_) rfl (by kernel_rfl) (fun _ _ _ h => h) (Or.inl ⟨by rfl, ?_⟩) (by assumption) (fun h => by first | assumption | exact absurd (h : true = false) (by decide)) ?_
  rotate_left
  · intro w hSw; (try dsimp only at hSw); (try go_simp); (try with_reducible rfl)
  try simp only [Act.put, List.setIfInBounds_toArray, List.set_cons_zero, List.set_cons_succ]
  refine until_s0 5 (v := ?_) rfl (by kernel_rfl) (fun _ _ _ h => h) (Or.inl ⟨by rfl, ?_⟩) (by assumption) (fun h => by first | assumption | exact absurd (h : true = false) (by decide)) ?_
  rotate_left
  · intro w hSw; (try dsimp only at hSw); (try go_simp); (try with_reducible rfl)
  try simp only [Act.put, List.setIfInBounds_toArray, List.set_cons_zero, List.set_cons_succ]
  refine until_s0 6 (v := ?_) rfl (by kernel_rfl) (fun _ _ _ h => h) (Or.inl ⟨by rfl, ?_⟩) (by assumption) (fun h => by first | assumption | exact absurd (h : true = false) (by decide)) ?_
  rotate_left
  · intro w hSw; (try dsimp only at hSw); (try go_simp); (try with_reducible rfl)
  try simp only [Act.put, List.setIfInBounds_toArray, List.set_cons_zero, List.set_cons_succ]
  refine until_s0 8 (v := ?_) rfl (by kernel_rfl) (fun _ _ _ h => h) (Or.inl ⟨by rfl, ?_⟩) (by assumption) (fun h => by first | assumption | exact absurd (h : true = false) (by decide)) ?_
  rotate_left
  · intro w hSw; (try dsimp only at hSw); (try go_simp); (try with_reducible rfl)
  try simp only [Act.put, List.setIfInBounds_toArray, List.set_cons_zero, List.set_cons_succ]
  refine until_s0 9 (v := ?_) rfl (by kernel_rfl) (fun _ _ _ h => h) (Or.inl ⟨by rfl, ?_⟩) (by assumption) (fun h => by first | assumption | exact absurd (h : true = false) (by decide)) ?_
  rotate_left
  · intro w hSw; (try dsimp only at hSw); (try go_simp); (try with_reducible rfl)
  try simp only [Act.put, List.setIfInBounds_toArray, List.set_cons_zero, List.set_cons_succ]
  refine until_s0 10 (v := ?_) rfl (by kernel_rfl) (fun _ _ _ h => h) (Or.inl ⟨by rfl, ?_⟩) (by assumption) (fun h => by first | assumption | exact absurd (h : true = false) (by decide)) ?_
  rotate_left
  · intro w hSw; (try dsimp only at hSw); (try go_simp); (try with_reducible rfl)
  try simp only [Act.put, List.setIfInBounds_toArray, List.set_cons_zero, List.set_cons_succ]
  refine until_s0 11 (v := ?_) rfl (by kernel_rfl) (fun _ _ _ h => h) (Or.inl ⟨by rfl, ?_⟩) (by assumption) (fun h => by first | assumption | exact absurd (h : true = false) (by decide)) ?_
  rotate_left
  · intro w hSw; (try dsimp only at hSw); (try go_simp); (try with_reducible rfl)
  try simp only [Act.put, List.setIfInBounds_toArray, List.set_cons_zero, List.set_cons_succ]
  refine until_s0 12 (v := ?_) rfl (by kernel_rfl) (fun _ _ _ h => h) (Or.inl ⟨by rfl, ?_⟩) (by assumption) (fun h => by first | assumption | exact absurd (h : true = false) (by decide)) ?_
  rotate_left
  · intro w hSw; (try dsimp only at hSw); (try go_simp); (try with_reducible rfl)
  try simp only [Act.put, List.setIfInBounds_toArray, List.set_cons_zero, List.set_cons_succ]
  refine until_sole 2 rfl (by kernel_rfl) (by rfl) ?_
  intro K' hK
  go_simp
  go_at_call 17
  refine (cM _).mono ?_
  rintro _ w3 ⟨rfl, f3⟩
  go_wp2_with fail
  have f3 : Fr [] w2 w3 := (Fr.drew _ _).trans f3
  have s3 := mkS _ (f3.keep A2 (by simp))
  refine hK _ _ s3 (fun _ => trivial) ?_
  clear hK s0
  skip
  refine until_sole 7 rfl (by kernel_rfl) (by rfl) ?_
  intro K' hK
  go_simp
  go_at_call 17
  refine (cI _).mono ?_
  rintro _ w4 ⟨rfl, f4⟩
  go_wp2_with fail
  have f4 := f3.trans f4
  have s4 := mkS _ (f4.keep A2 (by simp))
  refine hK _ _ s4 (fun _ => trivial) ?_
  clear hK s3 f3
  skip
  refine until_sole 13 rfl (by kernel_rfl) (by rfl) ?_
  intro K' hK
  go_simp
  go_at_call 17
  refine (cC _).mono ?_
  rintro _ w5 ⟨rfl, f5⟩
  go_wp2_with fail
  have f5 := f4.trans f5
  have A5 := f5.keep A2 (by simp)
  have B5 := f5.keep B2 (by simp)
  have s5 := mkS _ A5
  have hF5 := hF2.trans f5
  refine hK _ _ s5 (fun _ => trivial) ?_
  clear hK s4 f4 f5
  refine until_s0 14 (v := ?_) rfl (by kernel_rfl) (fun _ _ _ h => h) (Or.inl ⟨by rfl, ?_⟩) (by assumption) (fun h => by first | assumption | exact absurd (h : true = false) (by decide)) ?_
  rotate_left
  · intro w hSw; (try dsimp only at hSw); (try go_simp); (try with_reducible rfl)
  try simp only [Act.put, List.setIfInBounds_toArray, List.set_cons_zero, List.set_cons_succ]
  refine until_sole 15 rfl (by kernel_rfl) (by rfl) ?_
  intro K' hK
  refine wp_store_row _ _ _ rfl (p + 1) #[.string m', .int .i64 N, .int .i64 K, .string i', .string c'] rfl rfl 34 _ B5.out (by kernel_rfl) rfl (all_oneCell_toArray (cs := [.string m', .int .i64 N, .int .i64 K, .string i', .string c']) (by intro v hv; simp only [List.mem_cons, List.not_mem_nil, or_false] at hv; rcases hv with rfl | rfl | rfl | rfl | rfl <;> rfl)) ?_
  have B6 := B5.setRow #[.string m', .int .i64 N, .int .i64 K, .string i', .string c']
  have f6 : Fr [p + 1] w5 (w5.setRow (p + 1) #[.string m', .int .i64 N, .int .i64 K, .string i', .string c']) := Fr.setRow _ _ _ _ (.inl (by simp))
  have s6 := mkS _ (f6.keep A5 (by simp))
  have hF6 := hF5.new f6 (by simp; have := HP.out; omega)
  refine hK _ _ s6 (fun _ => trivial) ?_
  clear hK s5
  refine until_done (by kernel_rfl) ?_ _
  go_wp2_with fail
  obtain ⟨h1, h2, h3⟩ := HS.out
  refine ⟨rfl, _, ?_, m', i', c', N, K, rfl, h1, h2, by omega, by omega, by omega, h3, hF6⟩
  refine results_cell_row (fn := Tryd.f16) (p := 2) (ty := 34) (by rfl) _ _ (p + 1) 34 #[.string m', .int .i64 N, .int .i64 K, .string i', .string c'] (0, 0) _ ?_ B6.out Tryd.underlying34 rfl (by kernel_rfl)
  simp only [Act.put, List.setIfInBounds_toArray, List.set_cons_zero, List.set_cons_succ, Array.getD_eq_getD_getElem?, List.getElem?_toArray, List.getElem?_cons_succ, List.getElem?_cons_zero, Option.getD_some]

end Go.Proofs.YtffhfmaphjjffaaDoor
