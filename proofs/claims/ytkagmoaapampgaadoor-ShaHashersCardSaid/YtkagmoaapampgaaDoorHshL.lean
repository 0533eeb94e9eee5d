/- The bench: which place, what Restore answered comes into a place, a place that holds nil. -/
import Derived.Test.YtkagmoaapampgaaDoorHshT
import Derived.Test.YtkagmoaapampgaaDoorShaOps
namespace Go.Proofs.YtkagmoaapampgaaDoor
open Go.RowKit Go.Lib Go.Joins Base
set_option linter.unusedVariables false
set_option linter.unusedSimpArgs false

theorem num2_any (c : Int) (w : World) : Calls Tryd.prog 17 #[.int .i64 c] w fun e w' => e = .returned (.int .i64 c) ∧ w = w' := by
  go_enter Tryd.func17, Tryd.ntmps17
  go_wp2
  go_ret
  exact ⟨rfl, rfl⟩
theorem tmod_range (n H : Int) (h : 0 < H) : -H < n.tmod H ∧ n.tmod H < H := by
  refine ⟨?_, Int.tmod_lt_of_pos _ h⟩
  have := Int.tmod_lt_of_pos (-n) h
  rw [Int.neg_tmod] at this; omega
theorem place_any (n : Int) (hn : -9223372036854775808 ≤ n ∧ n ≤ 9223372036854775807) (w : World) : Calls Tryd.prog 32 #[.int .i64 n] w fun e w' => ∃ i : Nat, i < 4 ∧ e = .returned (.int .i64 i) ∧ w = w' := by
  obtain ⟨h1, h2⟩ := tmod_range n 4 (by omega)
  have w1 : IntKind.i64.wrap (n.tmod 4 + 4) = n.tmod 4 + 4 := IntWalk.i64_in _ (by omega)
  have e1 : ∀ t, binOp .rem t (.int .i64 n) (.int .i64 4) = pure (.int .i64 (n.tmod 4)) := by
    intro t
    simp only [binOp, Op.intDiv]
    rw [if_neg (by simp)]
    rw [if_neg (by omega)]
  have e2 : ∀ t, binOp .rem t (.int .i64 (n.tmod 4 + 4)) (.int .i64 4) = pure (.int .i64 (((n.tmod 4 + 4).toNat % 4 : Nat) : Int)) := by
    intro t
    simp only [binOp, Op.intDiv]
    rw [if_neg (by simp)]
    rw [if_neg (by omega)]
    rw [Int.tmod_eq_emod_of_nonneg (by omega)]
    congr 2; omega
  obtain ⟨k, hk⟩ : ∃ k, k = (n.tmod 4 + 4).toNat % 4 := ⟨_, rfl⟩
  rw [← hk] at e2
  have hk2 : k < 4 := by omega
  generalize n.tmod 4 = m at w1 e1 e2 h1 h2 hk
  clear hk
  go_enter Tryd.func32, Tryd.ntmps32
  go_wp2_with fail
  go_ret
  exact ⟨k, hk2, rfl, rfl⟩
set_option maxRecDepth 100000 in
set_option maxHeartbeats 1000000 in
theorem none_any (kind place src : Int) (d : ByteArray) (w : World) : Calls Tryd.prog 36 #[.agg #[.int .i64 kind, .int .i64 place, .int .i64 src, .string d]] w fun e w' => e = .returned (.bool true) ∧ Fr [] w w' := by
  have A0 := At.alloc_new w 46 #[.int .i64 kind, .int .i64 place, .int .i64 src, .string d]
  have F0 := Fr.alloc [] w (.cells #[.int .i64 kind, .int .i64 place, .int .i64 src, .string d] 46)
  have q0 := A0.cell 0
  have q3 := A0.cell 3
  by_cases e2 : kind = 2
  · subst e2
    go_enter Tryd.func36, Tryd.ntmps36
    go_wp2_with (first
      | (go_at_call 23; refine (write_nil _ _).mono ?_; rintro e w1 ⟨rfl, f1⟩)
      | (go_at_call 17; refine (num2_any _ _).mono ?_; rintro e w2 ⟨rfl, rfl⟩)
      | fail)
    go_ret
    exact ⟨rfl, F0.trans f1⟩
  by_cases e3 : kind = 3
  · subst e3
    go_enter Tryd.func36, Tryd.ntmps36
    go_wp2_with (first
      | (go_at_call 24; refine (sum_nil _).mono ?_; rintro e w1 ⟨rfl, f1⟩)
      | fail)
    go_ret
    exact ⟨rfl, F0.trans f1⟩
  by_cases e4 : kind = 4
  · subst e4
    go_enter Tryd.func36, Tryd.ntmps36
    go_wp2_with (first
      | (go_at_call 25; refine (count_nil _).mono ?_; rintro e w1 ⟨rfl, f1⟩)
      | fail)
    go_ret
    exact ⟨rfl, F0.trans f1⟩
  by_cases e5 : kind = 5
  · subst e5
    go_enter Tryd.func36, Tryd.ntmps36
    go_wp2_with (first
      | (go_at_call 20; refine (state_nil _).mono ?_; rintro e w1 ⟨rfl, f1⟩)
      | fail)
    go_ret
    exact ⟨rfl, F0.trans f1⟩
  go_enter Tryd.func36, Tryd.ntmps36
  go_wp2_with fail
  go_ret
  exact ⟨rfl, F0⟩
/-- What Restore answers, laid into a place. -/
theorem pc_rest {w0 w : World} {s : List UInt8} {H : List UInt32} {rest : List UInt8} {n p r : Nat} (h : restP s = some (H, rest, n)) (hp : Hold w p H rest n) (hr : RH w r H (n - n % 64) ⟨rest.toArray⟩) (h1 : w0.heap.size ≤ p) (h2 : w0.heap.size ≤ r) :
    PcOk w0 w ⟨p, r, H, n - n % 64, ⟨rest.toArray⟩⟩ := by
  obtain ⟨_, hH, hrl, hn, _⟩ := restP_back s H rest n h
  have hsz : (⟨rest.toArray⟩ : ByteArray).size = rest.length := by show rest.toArray.size = _; simp
  have hlt : rest.length < 64 := by omega
  refine ⟨?_, hr, hH, by show (n - n % 64) % 64 = 0; omega, by show n - n % 64 + (⟨rest.toArray⟩ : ByteArray).size ≤ _; rw [hsz]; omega, h1, h2⟩
  show Hold w p (wordsOf H (⟨rest.toArray⟩ : ByteArray).data.toList) (restOf (⟨rest.toArray⟩ : ByteArray).data.toList) (n - n % 64 + (⟨rest.toArray⟩ : ByteArray).size)
  rw [hsz, show (⟨rest.toArray⟩ : ByteArray).data.toList = rest by simp, wordsOf_short _ _ hlt, restOf_short _ hlt, show n - n % 64 + rest.length = n by omega]
  exact hp
theorem own_one (o : Option Pc) : ∃ a, own o = .pointer a := by cases o with | none => exact ⟨_, rfl⟩ | some c => exact ⟨_, rfl⟩
theorem ref_one (o : Option Pc) : ∃ a, ref o = .pointer a := by cases o with | none => exact ⟨_, rfl⟩ | some c => exact ⟨_, rfl⟩
set_option maxRecDepth 100000 in
set_option maxHeartbeats 1000000 in
theorem lay_any (w0 w : World) (bb : Nat) (st : Nat → Option Pc) (hB : Bench w0 w bb st) (i : Nat) (hi : i < 4) (s : ByteArray) (hs : s.size ≤ 140737488355328) (hI : First w) (hR : Roots w) :
    Calls Tryd.prog 34 #[.pointer (some ⟨bb, 0, none⟩), .int .i64 i, .string s] w fun e w' => e = .returned (.bool true) ∧ ∃ st', Bench w0 w' bb st' := by
  have c1 := restore_any s hs w hI hR
  have c2 := fun w => rrestore_any s hs w
  have hil : (i : Int) < 4 := by omega
  obtain ⟨x, hx⟩ : ∃ x, x = restP s.data.toList := ⟨_, rfl⟩
  rw [← hx] at c1 c2
  obtain ⟨a0, ha0⟩ := own_one (st i)
  obtain ⟨b0, hb0⟩ := ref_one (st i)
  cases x with
  | none =>
    go_enter Tryd.func34, Tryd.ntmps34
    go_upto_region 3 with (first
      | (go_at_call 19; refine c1.mono ?_; clear c1; rintro e w1 ⟨rfl, f1⟩)
      | (go_at_call 46; refine (c2 _).mono ?_; clear c2; rintro e w2 ⟨rfl, f2⟩)
      | fail)
    have hB := hB.keep (f1.trans f2)
    have ci := hB.cb.cell i
    have fi := hB.cb.frozen i
    rw [bcells_own st i hi, ha0] at ci
    go_upto_region 4 with fail
    have hA1 := hB.cb.setCell i (.pointer none)
    have c4 := hA1.cell (4 + i)
    have f4 := hA1.frozen (4 + i)
    rw [List.getElem?_set_ne (by omega), bcells_ref st i hi, hb0] at c4
    have hA2 := hA1.setCell (4 + i) (.pointer none)
    have F1 := Fr.setCell [bb] (w2) ⟨bb, i, none⟩ (.pointer none) (.inl (by simp))
    have F2 := Fr.setCell [bb] (w2.setCell ⟨bb, i, none⟩ (.pointer none)) ⟨bb, 4 + i, none⟩ (.pointer none) (.inl (by simp))
    go_wp2_with (first
      | (go_at_call 17; refine (num2_any _ _).mono ?_; rintro e w3 ⟨rfl, rfl⟩)
      | fail)
    go_ret
    refine ⟨rfl, upd st i (none), ?_⟩
    have F12 := F1.trans F2
    have hA3 := (hB.cb.setCell i (own (none))).setCell (4 + i) (ref (none))
    rw [bcells_set st i hi] at hA3
    exact hB.put i hi none F12 hA3 (fun c hc => by cases hc)
  | some y =>
    obtain ⟨H, rest, n⟩ := y
    go_enter Tryd.func34, Tryd.ntmps34
    go_upto_region 3 with (first
      | (go_at_call 19; refine c1.mono ?_; clear c1; rintro e w1 ⟨p, rfl, hp1, h1, f1⟩)
      | (go_at_call 46; refine (c2 _).mono ?_; clear c2; rintro e w2 ⟨r, rfl, hr2, h2, f2⟩)
      | fail)
    have hsz := hB.fr.size
    have hsz1 := f1.size
    have h1 := h1.keep f2 (by simp)
    have hpc := pc_rest hx.symm h1 h2 (w0 := w0) (by omega) (by omega)
    have hB0 := hB
    have hB := hB.keep (f1.trans f2)
    have hpl : p < w2.heap.size ∧ r < w2.heap.size := by
      obtain ⟨cs, hA⟩ := h1.at_
      exact ⟨hA.lt, At.lt h2⟩
    have ci := hB.cb.cell i
    have fi := hB.cb.frozen i
    rw [bcells_own st i hi, ha0] at ci
    go_upto_region 4 with fail
    have hA1 := hB.cb.setCell i (.pointer (some ⟨p, 0, none⟩))
    have c4 := hA1.cell (4 + i)
    have f4 := hA1.frozen (4 + i)
    rw [List.getElem?_set_ne (by omega), bcells_ref st i hi, hb0] at c4
    have hA2 := hA1.setCell (4 + i) (.pointer (some ⟨r, 0, none⟩))
    have F1 := Fr.setCell [bb] (w2) ⟨bb, i, none⟩ (.pointer (some ⟨p, 0, none⟩)) (.inl (by simp))
    have F2 := Fr.setCell [bb] (w2.setCell ⟨bb, i, none⟩ (.pointer (some ⟨p, 0, none⟩))) ⟨bb, 4 + i, none⟩ (.pointer (some ⟨r, 0, none⟩)) (.inl (by simp))
    go_wp2_with (first
      | (go_at_call 17; refine (num2_any _ _).mono ?_; rintro e w3 ⟨rfl, rfl⟩)
      | fail)
    go_ret
    refine ⟨rfl, upd st i (some ⟨p, r, H, n - n % 64, ⟨rest.toArray⟩⟩), ?_⟩
    have F12 := F1.trans F2
    have hA3 := (hB.cb.setCell i (own (some ⟨p, r, H, n - n % 64, ⟨rest.toArray⟩⟩))).setCell (4 + i) (ref (some ⟨p, r, H, n - n % 64, ⟨rest.toArray⟩⟩))
    rw [bcells_set st i hi] at hA3
    have F0 : Fr [bb] w _ := (Fr.mono (f1.trans f2) (by simp)).trans F12
    obtain ⟨hpl1, hpl2⟩ := hpl
    have hne := hB.cb.lt
    refine hB0.put i hi _ F0 hA3 (fun c hc => ?_)
    cases hc
    refine ⟨hpc.keep F12 ?_ ?_, hp1, Nat.le_trans hsz1 hr2⟩
    · have := hB0.cb.lt; simp; omega
    · have := hB0.cb.lt; simp; omega
end Go.Proofs.YtkagmoaapampgaaDoor
