/- The law's coins: so many bytes, the number in the last eight. -/
import Derived.Test.YthalpgandfbkdaaIdlH
namespace Go.Proofs.Ythalpgandfbkdaa
open Go.RowKit Go.Lib Go.Joins Base Go.Maps
set_option linter.unusedVariables false
set_option linter.unusedSimpArgs false

def lcgN (s : Nat) : Nat → Nat
  | 0 => s
  | i + 1 => (lcgN s i * 69069 + 12345) % 2147483648
theorem lcgN_lt (s : Nat) (h : s < 2147483648) (i : Nat) : lcgN s i < 2147483648 := by
  cases i with
  | zero => exact h
  | succ i => exact Nat.mod_lt _ (by omega)
def coinAt (n s num i : Nat) : Nat := if n ≤ i + 8 then num / 256 ^ (i + 8 - n) else lcgN s (i + 1) / 65536
def coinL (n s num : Nat) : List UInt8 := (List.range n).map fun i => UInt8.ofNat (coinAt n s num i)
theorem coinL_len (n s num : Nat) : (coinL n s num).length = n := by simp [coinL]
theorem coinL_take (n s num i : Nat) (h : i < n) : (coinL n s num).take (i + 1) = (coinL n s num).take i ++ [UInt8.ofNat (coinAt n s num i)] := by
  rw [List.take_add_one]
  simp [coinL, h]
theorem ofNat_mod {a b : Nat} (h : UInt8.ofNat a = UInt8.ofNat b) : a % 256 = b % 256 := by
  have := congrArg UInt8.toNat h
  simpa using this
theorem digits_eq (a b : Nat) : ∀ k, (∀ i, i < k → a / 256 ^ i % 256 = b / 256 ^ i % 256) → a % 256 ^ k = b % 256 ^ k
  | 0, _ => by simp [Nat.mod_one]
  | k + 1, h => by
    rw [Nat.pow_succ, Nat.mod_mul, Nat.mod_mul, digits_eq a b k (fun i hi => h i (by omega)), h k (by omega)]
theorem byteM (x : Nat) : IntKind.u8.wrap ((x % 256 : Nat) : Int) = bt (UInt8.ofNat x) := by
  rw [wrap8_nat _ (by omega)]
  unfold bt; simp
/-- Two coins of one tag bear one number. -/
theorem coin_tag (n n' s s' a b : Nat) (c c' : ByteArray) (hn : 16 ≤ n) (hn' : 16 ≤ n') (hc : c.data.toList = coinL n s a) (hc' : c'.data.toList = coinL n' s' b) (ha : a < 256 ^ 8) (hb : b < 256 ^ 8) (ht : tagX c = tagX c') : a = b := by
  have z : c.size = n := by have := coinL_len n s a; rw [← hc] at this; simpa using this
  have z' : c'.size = n' := by have := coinL_len n' s' b; rw [← hc'] at this; simpa using this
  rw [tagX_big _ (by omega), tagX_big _ (by omega)] at ht
  unfold tagB at ht
  have hl := congrArg (fun x : ByteArray => x.data.toList) ht
  simp only [ByteArray.data_extract, Array.toList_extract, List.extract_eq_take_drop, hc, hc', z, z'] at hl
  have key : ∀ (n s a : Nat), 16 ≤ n → ∀ i, i < 8 → (((coinL n s a).drop (n - 16)).take (n - (n - 16)))[8 + i]? = some (UInt8.ofNat (a / 256 ^ i)) := by
    intro n s a hn i hi
    rw [List.getElem?_take_of_lt (by omega), List.getElem?_drop]
    simp only [coinL, List.getElem?_map]
    rw [List.getElem?_range (by omega)]
    simp only [Option.map_some, coinAt]
    rw [if_pos (by omega), show n - 16 + (8 + i) + 8 - n = i by omega]
  have h8 : ∀ i, i < 8 → a / 256 ^ i % 256 = b / 256 ^ i % 256 := by
    intro i hi
    have e1 := key n s a hn i hi
    have e2 := key n' s' b hn' i hi
    rw [hl, e2] at e1
    injection e1 with e1
    exact (ofNat_mod e1).symm
  have := digits_eq a b 8 h8
  rw [Nat.mod_eq_of_lt ha, Nat.mod_eq_of_lt hb] at this
  exact this
set_option maxRecDepth 100000 in
set_option maxHeartbeats 1000000 in
theorem coins8_any (n : Nat) (seed : Int) (num : Nat) (hn : 8 ≤ n ∧ n ≤ 1048576) (hnum : num < 4611686018427387904) (w : World) :
    Calls Try.prog 19 #[.int .i64 n, .int .i64 seed, .int .i64 num] w fun e w' => e = .returned (.string ⟨(coinL n (modN seed 1000003) num).toArray⟩) ∧ Fr [] w w' := by
  have hi5 : (Try.prog.info? 5).map (fun i => (i.zero, i.size, i.bytes)) = some (some (.int .u8 0), 1, 1) := by kernel_rfl
  obtain ⟨iI, hiI, hz0, hz1, hz2⟩ := info_parts hi5
  have c1 := fun w => modI_any seed 1000003 (by omega) w
  rw [show ((1000003 : Nat) : Int) = 1000003 from rfl] at c1
  have hs := modN_lt seed 1000003 (by omega)
  generalize modN seed 1000003 = s at c1 hs ⊢
  obtain ⟨n8, hn8⟩ : ∃ n8, n = n8 + 8 := ⟨n - 8, by omega⟩
  have w0 : IntKind.i64.wrap ((n : Int) - 8) = (n8 : Int) := by rw [IntWalk.i64_in _ (by omega)]; omega
  have hn0 : n ≤ 1048576 := hn.2
  have HN := Lib.hid hn8
  have hp0 : (num : Int) = ((num / 256 ^ (0 + 8 - n) : Nat) : Int) := by rw [show 0 + 8 - n = 0 by omega]; simp
  have HP0 := Lib.hid hp0
  clear hn hn8 hp0
  go_enter Try.func19, Try.ntmps19
  go_wp2_with (first
    | (go_at_call 8; refine (c1 _).mono ?_; clear c1; rintro e w1 ⟨rfl, rfl⟩)
    | fail)
  go_loopw [2, 7, 8, 9] (fun v2 v7 v8 v9 wr => ∃ i : Nat, i ≤ n ∧ v9 = .int .i64 i ∧ v8 = .int .i64 ((lcgN s i : Nat) : Int) ∧ v2 = .int .i64 ((num / 256 ^ (i + 8 - n) : Nat) : Int) ∧ wr.ownsRow w.heap.size 5 1 v7 i (byteCells ((coinL n s num).take i)) ∧ Below w.heap.size w wr) (fun _ _ _ v _ => n - (RowKit.intOf v).toNat)
  case atStart => exact ⟨0, by omega, rfl, rfl, by rw [← HP0.out], World.ownsRow_nil _ _ _ _, Below.refl _ _⟩
  case round =>
    obtain ⟨i, hi, rfl, rfl, rfl, h0, hF⟩ := hrel
    have hsz := hF.size
    by_cases hl : i < n
    · have l1 : (i : Int) < n := by omega
      have w2 : IntKind.i64.wrap ((i : Int) + 1) = ((i + 1 : Nat) : Int) := by rw [IntWalk.i64_in _ (by omega)]; omega
      have ht := coinL_take n s num i hl
      have hx := lcgN_lt s (by omega) i
      have hx2 : lcgN s (i + 1) = (lcgN s i * 69069 + 12345) % 2147483648 := rfl
      obtain ⟨x, hxx⟩ : ∃ x, x = lcgN s i := ⟨_, rfl⟩
      obtain ⟨x2, hxx2⟩ : ∃ x2, x2 = lcgN s (i + 1) := ⟨_, rfl⟩
      rw [← hxx] at hx hx2 ⊢
      rw [← hxx2] at hx2
      obtain ⟨y1, hy1⟩ : ∃ y, y = x * 69069 := ⟨_, rfl⟩
      obtain ⟨y2, hy2⟩ : ∃ y, y = y1 + 12345 := ⟨_, rfl⟩
      have w3 : IntKind.i64.wrap ((x : Int) * 69069) = (y1 : Int) := by rw [show (x : Int) * 69069 = (y1 : Int) by omega]; exact IntWalk.i64_in _ (by omega)
      have w4 : IntKind.i64.wrap ((y1 : Int) + 12345) = (y2 : Int) := by rw [show (y1 : Int) + 12345 = (y2 : Int) by omega]; exact IntWalk.i64_in _ (by omega)
      have e1 : ∀ t, binOp .rem t (.int .i64 (y2 : Int)) (.int .i64 2147483648) = pure (.int .i64 (x2 : Int)) := fun t => by
        have := remN y2 2147483648 (by omega) t
        rw [show y2 % 2147483648 = x2 by rw [hx2, hy2, hy1]] at this
        exact this
      obtain ⟨z, hz⟩ : ∃ z, z = x2 / 65536 := ⟨_, rfl⟩
      have e2 : ∀ t, binOp .quo t (.int .i64 (x2 : Int)) (.int .i64 65536) = pure (.int .i64 (z : Int)) := fun t => by
        have := quoN x2 65536 (by omega) (by omega) t
        rw [← hz] at this
        exact this
      have e3 : ∀ t, binOp .rem t (.int .i64 (z : Int)) (.int .i64 256) = pure (.int .i64 ((z % 256 : Nat) : Int)) := fun t => remN z 256 (by omega) t
      have hn8 := HN.out
      have hq : num / 256 ^ (i + 8 - n) < 4611686018427387904 := Nat.lt_of_le_of_lt (Nat.div_le_self _ _) hnum
      by_cases hb : n8 ≤ i
      · have l2 : (n8 : Int) ≤ i := by omega
        have hu : coinAt n s num i = num / 256 ^ (i + 8 - n) := if_pos (by omega)
        have hnx : num / 256 ^ (i + 1 + 8 - n) = num / 256 ^ (i + 8 - n) / 256 := by
          rw [show i + 1 + 8 - n = (i + 8 - n) + 1 by omega, Nat.pow_succ, ← Nat.div_div_eq_div_mul]
        rw [hu] at ht
        obtain ⟨q, hqq⟩ : ∃ q, q = num / 256 ^ (i + 8 - n) := ⟨_, rfl⟩
        rw [← hqq] at hq ht hnx ⊢
        have e4 : ∀ t, binOp .rem t (.int .i64 (q : Int)) (.int .i64 256) = pure (.int .i64 ((q % 256 : Nat) : Int)) := fun t => remN q 256 (by omega) t
        obtain ⟨q2, hq2⟩ : ∃ q2, q2 = q / 256 := ⟨_, rfl⟩
        have e5 : ∀ t, binOp .quo t (.int .i64 (q : Int)) (.int .i64 256) = pure (.int .i64 (q2 : Int)) := fun t => by
          have := quoN q 256 (by omega) (by omega) t
          rw [← hq2] at this
          exact this
        have b4 := byteM q
        obtain ⟨u, hu2⟩ : ∃ u, u = UInt8.ofNat q := ⟨_, rfl⟩
        rw [← hu2] at b4 ht
        generalize ((q % 256 : Nat) : Int) = q1 at e4 b4
        generalize ((z % 256 : Nat) : Int) = z1 at e3
        rw [← hq2] at hnx
        have HT := Lib.hid (And.intro ht (And.intro hnx hxx2))
        have A2 := At.alloc_new wr 5 #[Value.int .u8 (bt u)]
        clear ht hnx hxx hxx2 hx hx2 hy1 hy2 hz hq hqq hq2 hu hu2 hn8 hb hnum
        go_wp2_with (first
          | (at_builtin; refine wpList_append_own _ rfl _ _ _ rfl w.heap.size 5 iI (.int .u8 0) 1 1 Try.underlying28 hiI hz0 hz1 hz2 rfl (by decide) _ i _ rfl (World.ownsRow.alloc h0 _) ⟨wr.heap.size, 0, none⟩ 1 1 (byteCells [u]) rfl rfl (by intro j u' hj; rw [addr_add', Nat.zero_add]; exact (A2.cell j).trans hj) (byteCells_one _) (by simp [maxLen]; omega) (by omega) (by simp; omega) ?_; intro v2 w2 o2 gr2 _)
          | fail)
        refine ⟨⟨i + 1, by omega, by simp, by rw [HT.out.2.2], by rw [HT.out.2.1], ?_, ?_⟩, by simp only [RowKit.intOf]; omega⟩
        · rw [HT.out.1]
          simpa [byteCells] using o2
        · refine (hF.alloc (by omega) _).grown gr2 (by simp; omega) ?_
          intro x hx
          exact (h0.lt x hx).1
      · have l2 : ¬ (n8 : Int) ≤ i := by omega
        have hu : coinAt n s num i = z := by rw [hz, hxx2]; exact if_neg (by omega)
        have hnx : num / 256 ^ (i + 1 + 8 - n) = num / 256 ^ (i + 8 - n) := by rw [show i + 1 + 8 - n = i + 8 - n by omega]
        rw [hu] at ht
        have b4 := byteM z
        obtain ⟨u, hu2⟩ : ∃ u, u = UInt8.ofNat z := ⟨_, rfl⟩
        rw [← hu2] at b4 ht
        generalize ((z % 256 : Nat) : Int) = z1 at e3 b4
        obtain ⟨q, hqq⟩ : ∃ q, q = num / 256 ^ (i + 8 - n) := ⟨_, rfl⟩
        rw [← hqq] at hnx ⊢
        have HT := Lib.hid (And.intro ht (And.intro hnx hxx2))
        have A2 := At.alloc_new wr 5 #[Value.int .u8 (bt u)]
        clear ht hnx hxx hxx2 hx hx2 hy1 hy2 hz hq hqq hu hu2 hn8 hb hnum
        go_wp2_with (first
          | (at_builtin; refine wpList_append_own _ rfl _ _ _ rfl w.heap.size 5 iI (.int .u8 0) 1 1 Try.underlying28 hiI hz0 hz1 hz2 rfl (by decide) _ i _ rfl (World.ownsRow.alloc h0 _) ⟨wr.heap.size, 0, none⟩ 1 1 (byteCells [u]) rfl rfl (by intro j u' hj; rw [addr_add', Nat.zero_add]; exact (A2.cell j).trans hj) (byteCells_one _) (by simp [maxLen]; omega) (by omega) (by simp; omega) ?_; intro v2 w2 o2 gr2 _)
          | fail)
        refine ⟨⟨i + 1, by omega, by simp, by rw [HT.out.2.2], by rw [HT.out.2.1], ?_, ?_⟩, by simp only [RowKit.intOf]; omega⟩
        · rw [HT.out.1]
          simpa [byteCells] using o2
        · refine (hF.alloc (by omega) _).grown gr2 (by simp; omega) ?_
          intro x hx
          exact (h0.lt x hx).1
    · obtain rfl : i = n := by omega
      have l1 : ¬ (i : Int) < i := by omega
      rw [List.take_of_length_le (by rw [coinL_len]; omega)] at h0
      have hcv := run_strOwn (P := Try.prog) Try.underlying28 Try.underlying5 Try.underlying9 h0
      go_wp2_with fail
      go_ret
      exact ⟨rfl, Fr.ofBelow hF⟩
end Go.Proofs.Ythalpgandfbkdaa
