/- The printed rows of ChaCha20, and the law's own small functions. -/
import Derived.Test.YtmgfhamfbdaeiaaDoorLawLongsW
namespace Go.Proofs.YtmgfhamfbdaeiaaDoor
open Go.RowKit Go.Lib Base
set_option linter.unusedVariables false
set_option linter.unusedSimpArgs false

def q5 (q : UInt32 × UInt32 × UInt32 × UInt32) : Value := .tuple #[.int .i64 (wd q.1), .int .i64 (wd q.2.1), .int .i64 (wd q.2.2.1), .int .i64 (wd q.2.2.2), .int .i64 0]
theorem idx0 (a b c d : Int) (w : World) : (Instr.index 86 (.agg #[.int .i64 a, .int .i64 b, .int .i64 c, .int .i64 d]) (.int .i64 0)).run Tryd.prog w = .ok (.int .i64 a) w := by kernel_rfl
theorem idx1 (a b c d : Int) (w : World) : (Instr.index 86 (.agg #[.int .i64 a, .int .i64 b, .int .i64 c, .int .i64 d]) (.int .i64 1)).run Tryd.prog w = .ok (.int .i64 b) w := by kernel_rfl
theorem idx2 (a b c d : Int) (w : World) : (Instr.index 86 (.agg #[.int .i64 a, .int .i64 b, .int .i64 c, .int .i64 d]) (.int .i64 2)).run Tryd.prog w = .ok (.int .i64 c) w := by kernel_rfl
theorem idx3 (a b c d : Int) (w : World) : (Instr.index 86 (.agg #[.int .i64 a, .int .i64 b, .int .i64 c, .int .i64 d]) (.int .i64 3)).run Tryd.prog w = .ok (.int .i64 d) w := by kernel_rfl
attribute [local go_sem] idx0 idx1 idx2 idx3

set_option maxRecDepth 100000 in
theorem Quarter_good (a b c d : UInt32) (w : World) :
    Calls Tryd.prog 55 #[.int .i64 (wd a), .int .i64 (wd b), .int .i64 (wd c), .int .i64 (wd d)] w fun e w' => e = .returned (q5 (qr a b c d)) ∧ w = w' := by
  go_enter Tryd.func55, Tryd.ntmps55
  go_wp2_with fail
  go_loop [24] (fun i => ∃ k : Nat, k ≤ 4 ∧ i = .int .i64 k) (fun i => 4 - (intOf i).toNat)
  case atStart => exact ⟨0, by omega, rfl⟩
  case round =>
    obtain ⟨k, hk, rfl⟩ := hrel
    by_cases h4 : k = 4
    · subst h4
      go_wp2_with (go_at_call 66; refine (quarter_any _ _ _ _ _).mono ?_; rintro e w' ⟨rfl, rfl⟩)
      refine bodyPost_ret (v := q5 (qr a b c d)) (by simp [results, Tryd.results55, go_sem]; rfl) rfl ⟨rfl, rfl⟩
    · obtain rfl | rfl | rfl | rfl : k = 0 ∨ k = 1 ∨ k = 2 ∨ k = 3 := by omega
      · go_wp2_with fail
        go_round
        case rel => exact ⟨1, by decide, by go_num⟩
        case measure => simp [intOf]
      · go_wp2_with fail
        go_round
        case rel => exact ⟨2, by decide, by go_num⟩
        case measure => simp [intOf]
      · go_wp2_with fail
        go_round
        case rel => exact ⟨3, by decide, by go_num⟩
        case measure => simp [intOf]
      · go_wp2_with fail
        go_round
        case rel => exact ⟨4, by decide, by go_num⟩
        case measure => simp [intOf]


def risen (n : Nat) : List UInt8 := (List.range n).map UInt8.ofNat
def n12 : ByteArray := ⟨#[0, 0, 0, 9, 0, 0, 0, 74, 0, 0, 0, 0]⟩
def n16 : ByteArray := ⟨#[0, 0, 0, 9, 0, 0, 0, 74, 0, 0, 0, 0, 49, 65, 89, 39]⟩
set_option maxRecDepth 100000 in
theorem blk_known : (⟨(blk (risen 32) n12.data.toList 1).toArray⟩ : ByteArray).extract 0 4 = ⟨#[16, 241, 231, 228]⟩ ∧ (⟨(blk (risen 32) n12.data.toList 1).toArray⟩ : ByteArray).extract 60 64 = ⟨#[162, 80, 60, 78]⟩ := by decide +kernel
set_option maxRecDepth 100000 in
theorem hch_known : (⟨((hch (risen 32) n16.data.toList).flatMap bytes4).toArray⟩ : ByteArray).extract 0 4 = ⟨#[130, 65, 59, 66]⟩ ∧ (⟨((hch (risen 32) n16.data.toList).flatMap bytes4).toArray⟩ : ByteArray).extract 28 32 = ⟨#[38, 211, 236, 220]⟩ := by decide +kernel
theorem qr_known : qr 286331153 16909060 2609737539 19088743 = (3928658676, 3407673550, 1166100270, 1484899515) := by decide +kernel

set_option maxRecDepth 100000 in
set_option maxHeartbeats 1000000 in
theorem rising_any (n : Nat) (hn : n ≤ 1000) (w : World) : Calls Tryd.prog 56 #[.int .i64 n] w fun e w' => e = .returned (.string ⟨(risen n).toArray⟩) ∧ Fr [] w w' := by
  have hmk := run_mk (P := Tryd.prog) Tryd.underlying38 (by kernel_rfl) n (by omega)
  go_enter Tryd.func56, Tryd.ntmps56
  have hRl : (risen n).length = n := by simp [risen]
  go_wp2_with fail
  have h0 : At (w.alloc (.cells (byteCells (zerosB n)).toArray 5)) w.heap.size 5 (byteCells (fillUp (risen n) 0)) := by
    rw [fillUp_zero, hRl]; exact At.alloc_new w 5 (byteCells (zerosB n)).toArray
  go_loopw [4] (fun v wr => ∃ i : Nat, i ≤ n ∧ v = .int .i64 i ∧ At wr w.heap.size 5 (byteCells (fillUp (risen n) i)) ∧ Fr [] w wr) (fun v _ => n - (intOf v).toNat)
  case atStart => exact ⟨0, by omega, rfl, h0, Fr.alloc _ _ _⟩
  case round =>
    clear h0
    obtain ⟨i, hi, rfl, h0, hF⟩ := hrel
    by_cases hl : i < n
    · have l1 : (i : Int) < n := by omega
      have hb : IntKind.u8.wrap (i : Int) = bt (UInt8.ofNat i) := by
        unfold bt; simp [IntKind.wrap, IntKind.bits, IntKind.signed]
      have c0 := h0.cell i
      rw [byteCells_get _ _ (by rw [fillUp_len _ _ (by omega)]; omega)] at c0
      have f0 := h0.frozen i
      have hset := Lib.hid (fillUp_set i (risen n) (by omega))
      have e1 : (risen n).getD i 0 = UInt8.ofNat i := by simp [risen, List.getD, hl]
      rw [e1] at hset
      clear e1
      generalize (fillUp (risen n) i).getD i 0 = old at c0
      generalize UInt8.ofNat i = x at hset hb
      go_wp2_with fail
      refine ⟨⟨i + 1, by omega, by simp, ?_, ?_⟩, by simp only [intOf]; omega⟩
      · have := h0.setCell i (.int .u8 (bt x))
        rw [byteCells_set, hset.out] at this
        exact this
      · exact hF.new (S := [w.heap.size]) (Fr.setCell _ _ _ _ (.inl List.mem_cons_self)) (by simp)
    · obtain rfl : i = n := by omega
      have hcv := run_strB (P := Tryd.prog) (d := 9) Tryd.underlying38 Tryd.underlying5 Tryd.underlying9 wr w.heap.size 0 i 5 (risen i) [] [] (by
        rw [List.nil_append, List.append_nil]
        have := h0
        rw [show fillUp (risen i) i = fillUp (risen i) (risen i).length by rw [hRl], fillUp_all] at this
        exact this) rfl i hRl.symm
      go_wp2_with fail
      go_ret
      exact ⟨rfl, hF⟩

/-- A text brought to n bytes. -/
def fitL (S : List UInt8) (n : Nat) : List UInt8 := (List.range n).map fun i => S.getD i 7
theorem fitL_len (S : List UInt8) (n : Nat) : (fitL S n).length = n := by simp [fitL]
set_option maxRecDepth 100000 in
set_option maxHeartbeats 1000000 in
theorem sizedlaw_any (s : ByteArray) (n : Nat) (hn : n ≤ 1000) (w : World) : Calls Tryd.prog 29 #[.string s, .int .i64 n] w fun e w' => e = .returned (.string ⟨(fitL s.data.toList n).toArray⟩) ∧ Fr [] w w' := by
  have hmk := run_mk (P := Tryd.prog) Tryd.underlying38 (by kernel_rfl) n (by omega)
  have hRl := fitL_len s.data.toList n
  have hget : ∀ i, i < n → (fitL s.data.toList n).getD i 0 = s.data.toList.getD i 7 := by intro i hi; simp [fitL, List.getD, hi]
  have hsl : s.data.toList.length = s.size := by simp
  obtain ⟨S, hS⟩ : ∃ S, S = s.data.toList := ⟨_, rfl⟩
  rw [← hS] at hRl hget hsl ⊢
  obtain ⟨R, hR⟩ : ∃ R, R = fitL S n := ⟨_, rfl⟩
  rw [← hR] at hRl hget ⊢
  have HS := Lib.hid hS
  have Hget := Lib.hid hget
  clear hR hS hget
  go_enter Tryd.func29, Tryd.ntmps29
  go_wp2_with fail
  have h0 : At (w.alloc (.cells (byteCells (zerosB n)).toArray 5)) w.heap.size 5 (byteCells (fillUp R 0)) := by
    rw [fillUp_zero, hRl]; exact At.alloc_new w 5 (byteCells (zerosB n)).toArray
  go_loopw [6] (fun v wr => ∃ i : Nat, i ≤ n ∧ v = .int .i64 i ∧ At wr w.heap.size 5 (byteCells (fillUp R i)) ∧ Fr [] w wr) (fun v _ => n - (intOf v).toNat)
  case atStart => exact ⟨0, by omega, rfl, h0, Fr.alloc _ _ _⟩
  case round =>
    clear h0
    obtain ⟨i, hi, rfl, h0, hF⟩ := hrel
    by_cases hl : i < n
    · have l1 : (i : Int) < n := by omega
      have c0 := h0.cell i
      rw [byteCells_get _ _ (by rw [fillUp_len _ _ (by omega)]; omega)] at c0
      have f0 := h0.frozen i
      have hset := Lib.hid (fillUp_set i R (by omega))
      generalize (fillUp R i).getD i 0 = old at c0
      by_cases hs : i < s.size
      · have l2 : (i : Int) < s.size := by omega
        obtain ⟨x, hx⟩ : ∃ x, x = S.getD i 7 := ⟨_, rfl⟩
        have gx : s[i] = x := bget _ (by rw [hx, ← HS.out]; simp [List.getD, show i < S.length by omega])
        have Hx := Lib.hid hx
        clear hx
        go_wp2_with fail
        refine ⟨⟨i + 1, by omega, by simp, ?_, ?_⟩, by simp only [intOf]; omega⟩
        · have := (h0.setCell i (.int .u8 7)).setCell i (.int .u8 (bt x))
          have e : R.getD i 0 = x := by rw [Hget.out i hl, Hx.out]
          rw [List.set_set, byteCells_set, ← e, hset.out] at this
          rw [← e]
          exact this
        · exact hF.new (S := [w.heap.size]) ((Fr.setCell [w.heap.size] wr ⟨w.heap.size, i, none⟩ (.int .u8 7) (.inl (by simp))).trans (Fr.setCell _ _ _ _ (.inl (by simp)))) (by simp)
      · have l2 : ¬ (i : Int) < s.size := by omega
        go_wp2_with fail
        refine ⟨⟨i + 1, by omega, by simp, ?_, ?_⟩, by simp only [intOf]; omega⟩
        · have e : R.getD i 0 = 7 := by rw [Hget.out i hl]; simp [List.getD, List.getElem?_eq_none (show S.length ≤ i by omega)]
          have := h0.setCell i (.int .u8 (bt 7))
          have e7 : (.int .u8 7 : Value) = .int .u8 (bt 7) := rfl
          rw [e7]
          rw [byteCells_set, ← e, hset.out, e] at this
          exact this
        · exact hF.new (S := [w.heap.size]) (Fr.setCell _ _ _ _ (.inl List.mem_cons_self)) (by simp)
    · obtain rfl : i = n := by omega
      have hcv := run_strB (P := Tryd.prog) (d := 9) Tryd.underlying38 Tryd.underlying5 Tryd.underlying9 wr w.heap.size 0 i 5 R [] [] (by
        rw [List.nil_append, List.append_nil]
        have := h0
        rw [show fillUp R i = fillUp R R.length by rw [hRl], fillUp_all] at this
        exact this) rfl i hRl.symm
      go_wp2_with fail
      go_ret
      exact ⟨rfl, hF⟩

set_option maxRecDepth 100000 in
theorem counter_any (n : Int) (hn : (Lit.int .i64 n).wf = true) (l : Nat) (hl : l ≤ 100000) (w : World) : Calls Tryd.prog 30 #[.int .i64 n, .int .i64 l] w fun e w' =>
    ∃ c : UInt32, e = .returned (.int .i64 (wd c)) ∧ (l + 63) / 64 + c.toNat ≤ 4294967296 ∧ ∃ q, w' = w.drewN q := by
  have a0 : IntKind.i64.wrap ((l : Int) + 63) = (l : Int) + 63 := IntWalk.i64_in _ (by omega)
  have a1 : IntKind.i64.wrap (4294967296 - ((l : Int) + 63) / 64) = 4294967296 - ((l : Int) + 63) / 64 := IntWalk.i64_in _ (by omega)
  obtain ⟨r, hr⟩ : ∃ r : Int, 4294967296 - ((l : Int) + 63) / 64 = r := ⟨_, rfl⟩
  have r0 : 4294960000 ≤ r := by omega
  have r1 : r ≤ 4294967296 := by omega
  have a2 : IntKind.i64.wrap (r + 1) = r + 1 := IntWalk.i64_in _ (by omega)
  have a3 : ¬ (r + 1 = 0) := by omega
  obtain ⟨m, hm⟩ : ∃ m, n.tmod (r + 1) = m := ⟨_, rfl⟩
  have m0 : -(r + 1) < m := by rw [← hm]; have := Int.lt_tmod_of_pos n (show 0 < r + 1 by omega); omega
  have m1 : m < r + 1 := by rw [← hm]; exact Int.tmod_lt_of_pos n (by omega)
  have key : ∀ z : Int, 0 ≤ z → z ≤ 4294967295 → z ≤ r → ∃ c : UInt32, z = wd c ∧ (l + 63) / 64 + c.toNat ≤ 4294967296 := by
    intro z h0 h1 h2
    obtain ⟨c, rfl⟩ := wd_of (n := z) h0 (by omega)
    refine ⟨c, rfl, ?_⟩
    have : wd c = c.toNat := rfl
    omega
  have am : IntKind.i64.wrap m = m := IntWalk.i64_in _ (by omega)
  clear a3
  have a3 : (r + 1) ≠ 0 := by omega
  by_cases hneg : m < 0
  · have b1 : IntKind.i64.wrap (m + r) = m + r := IntWalk.i64_in _ (by omega)
    have b2 : IntKind.i64.wrap (m + r + 1) = m + r + 1 := IntWalk.i64_in _ (by omega)
    by_cases hbig : 4294967295 < m + r + 1
    · obtain ⟨c, hc, hc'⟩ := key 4294967295 (by omega) (by omega) (by omega)
      go_enter Tryd.func30, Tryd.ntmps30
      go_wp2_with fail
      go_ret
      exact ⟨c, (by rw [← hc]; rfl), hc', 0, rfl⟩
    · obtain ⟨c, hc, hc'⟩ := key (m + r + 1) (by omega) (by omega) (by omega)
      go_enter Tryd.func30, Tryd.ntmps30
      go_wp2_with fail
      go_ret
      exact ⟨c, (by rw [← hc]; rfl), hc', 0, rfl⟩
  · by_cases hbig : 4294967295 < m
    · obtain ⟨c, hc, hc'⟩ := key 4294967295 (by omega) (by omega) (by omega)
      go_enter Tryd.func30, Tryd.ntmps30
      go_wp2_with fail
      go_ret
      exact ⟨c, (by rw [← hc]; rfl), hc', 0, rfl⟩
    · obtain ⟨c, hc, hc'⟩ := key m (by omega) (by omega) (by omega)
      go_enter Tryd.func30, Tryd.ntmps30
      go_wp2_with fail
      go_ret
      exact ⟨c, (by rw [← hc]; rfl), hc', 0, rfl⟩

set_option maxRecDepth 100000 in
set_option maxHeartbeats 1000000 in
theorem known_any (w : World) (ht : Rounds w) : Calls Tryd.prog 26 #[] w fun e w' => e = .returned (.bool true) ∧ Fr [] w w' := by
  have hq : ∀ w, Calls Tryd.prog 55 #[.int .i64 286331153, .int .i64 16909060, .int .i64 2609737539, .int .i64 19088743] w fun e w' => e = .returned (.tuple #[.int .i64 3928658676, .int .i64 3407673550, .int .i64 1166100270, .int .i64 1484899515, .int .i64 0]) ∧ w = w' := by
    intro w
    have h := Quarter_good 286331153 16909060 2609737539 19088743 w
    rw [qr_known] at h
    exact h
  have hris : ∀ w, Calls Tryd.prog 56 #[.int .i64 32] w fun e w' => e = .returned (.string ⟨(risen 32).toArray⟩) ∧ Fr [] w w' := fun w => rising_any 32 (by omega) w
  have hb : ∀ w, Rounds w → Calls Tryd.prog 22 #[.string ⟨(risen 32).toArray⟩, .int .i64 1, .string ⟨#[0, 0, 0, 9, 0, 0, 0, 74, 0, 0, 0, 0]⟩] w fun e w' => e = .returned (.tuple #[.string ⟨(blk (risen 32) n12.data.toList 1).toArray⟩, .int .i64 0]) ∧ Fr [] w w' := by
    intro w h
    have := block_ok ⟨(risen 32).toArray⟩ n12 (by decide +kernel) (by decide +kernel) 1 w h
    exact this
  have hh : ∀ w, Rounds w → Calls Tryd.prog 19 #[.string ⟨(risen 32).toArray⟩, .string ⟨#[0, 0, 0, 9, 0, 0, 0, 74, 0, 0, 0, 0, 49, 65, 89, 39]⟩] w fun e w' => e = .returned (.tuple #[.string ⟨((hch (risen 32) n16.data.toList).flatMap bytes4).toArray⟩, .int .i64 0]) ∧ Fr [] w w' := by
    intro w h
    have := hash_ok ⟨(risen 32).toArray⟩ n16 (by decide +kernel) (by decide +kernel) w h
    exact this
  have k1 := blk_known
  have k2 := hch_known
  have k3 : (⟨(blk (risen 32) n12.data.toList 1).toArray⟩ : ByteArray).size = 64 := by decide +kernel
  have k4 : (⟨((hch (risen 32) n16.data.toList).flatMap bytes4).toArray⟩ : ByteArray).size = 32 := by decide +kernel
  generalize (⟨(blk (risen 32) n12.data.toList 1).toArray⟩ : ByteArray) = S at hb k1 k3
  generalize (⟨((hch (risen 32) n16.data.toList).flatMap bytes4).toArray⟩ : ByteArray) = H at hh k2 k4
  generalize (⟨(risen 32).toArray⟩ : ByteArray) = R at hb hh hris
  obtain ⟨k1, k5⟩ := k1
  obtain ⟨k2, k6⟩ := k2
  have hF := Fr.refl [] w
  go_enter Tryd.func26, Tryd.ntmps26
  go_wp2_with (first
    | (go_at_call 55; refine (hq _).mono ?_; rintro e w1 ⟨rfl, rfl⟩)
    | (go_at_call 21; refine (num4_any 0 (by omega) (by omega) _).mono ?_; rintro e w3 ⟨rfl, qn, rfl⟩)
    | (go_at_call 56; refine (hris _).mono ?_; rintro e w1 ⟨rfl, f1⟩; have hF : Fr [] w w1 := (by first | exact hF.trans f1 | exact hF.trans ((Fr.drewN [] _ _).trans f1)); have hR := ht.keep hF (by simp))
    | (go_at_call 22; refine (hb _ (by exact hR)).mono ?_; rintro e w2 ⟨rfl, f2⟩; have hF := hF.trans f2; have hR := ht.keep hF (by simp))
    | (go_at_call 19; refine (hh _ (by exact hR)).mono ?_; rintro e w2 ⟨rfl, f2⟩; have hF := hF.trans f2)
    | fail)
  go_ret
  exact ⟨rfl, hF.trans (Fr.drewN _ _ _)⟩
end Go.Proofs.YtmgfhamfbdaeiaaDoor
