/- Restore of the program. -/
import Derived.Test.YtkagmoaapampgaaDoorShaState
import Derived.Test.YtkagmoaapampgaaDoorShaRestP
import Derived.Test.YtkagmoaapampgaaDoorShaEq
import Derived.Test.YtkagmoaapampgaaDoorUntil
namespace Go.Proofs.YtkagmoaapampgaaDoor
open Go.RowKit Go.Lib Go.Joins Base
set_option linter.unusedVariables false
set_option linter.unusedSimpArgs false

theorem four_of (l : List UInt8) (h : 4 ≤ l.length) : ∃ a b c d r, l = a :: b :: c :: d :: r := by
  match l, h with
  | a :: b :: c :: d :: r, _ => exact ⟨a, b, c, d, r, rfl⟩
  | [], h => simp at h
  | [_], h => simp at h
  | [_, _], h => simp at h
  | [_, _, _], h => simp at h
theorem numS_words (s : List UInt8) (a b c d e f g h : UInt8) (r1 r2 : List UInt8) (h1 : s.drop 32 = a :: b :: c :: d :: r1) (h2 : s.drop 36 = e :: f :: g :: h :: r2) : numS s = (be4 a b c d).toNat * 4294967296 + (be4 e f g h).toNat := by
  have h3 : r1 = e :: f :: g :: h :: r2 := by
    have : (s.drop 32).drop 4 = s.drop 36 := by rw [List.drop_drop]
    rw [h1, h2] at this; exact this
  unfold numS
  rw [h1, h3, be4_nat, be4_nat]
  simp [numOf]; omega

/-- Words, and zeros up to 8. -/
def padH (l : List UInt32) : List UInt32 := l ++ List.replicate (8 - l.length) 0
theorem padH_len (l : List UInt32) (h : l.length ≤ 8) : (padH l).length = 8 := by simp [padH]; omega
theorem padH_set (l : List UInt32) (x : UInt32) (h : l.length < 8) : (padH l).set l.length x = padH (l ++ [x]) := by
  unfold padH
  rw [List.set_append_right _ _ (Nat.le_refl _), Nat.sub_self, show 8 - l.length = (8 - (l ++ [x]).length) + 1 by simp; omega]
  simp [List.replicate_succ]
theorem hcells_set (H : List UInt32) (t : List UInt8) (n i : Nat) (x : UInt32) (h : i < H.length) : (hcells H t n).set i (.int .u32 (wd x)) = hcells (H.set i x) t n := by
  unfold hcells
  rw [List.append_assoc, List.set_append_left _ _ (by rw [wcells_len]; exact h), wcells_set, ← List.append_assoc]
/-- What Restore answers. -/
def restE (x : Option (List UInt32 × List UInt8 × Nat)) (w : World) (e : Ending) (w' : World) : Prop :=
  match x with
  | none => e = .returned (.tuple #[.pointer none, .int .i64 21]) ∧ Fr [] w w'
  | some (H, rest, n) => ∃ p, e = .returned (.tuple #[.pointer (some ⟨p, 0, none⟩), .int .i64 0]) ∧ w.heap.size ≤ p ∧ Hold w' p H rest n ∧ Fr [] w w'

set_option maxRecDepth 100000 in
set_option maxHeartbeats 1000000 in
theorem restore_any (s : ByteArray) (hs : s.size ≤ 140737488355328) (w : World) (hI : First w) (hR : Roots w) :
    Calls Tryd.prog 19 #[.string s] w (restE (restP s.data.toList) w) := by
  obtain ⟨S, hS⟩ : ∃ S, S = s.data.toList := ⟨_, rfl⟩
  have hSl : S.length = s.size := by rw [hS]; simp
  rw [← hS]
  by_cases h40 : s.size < 40
  · have e : restP S = none := by unfold restP; rw [if_pos (by omega)]
    rw [e]
    have l1 : (s.size : Int) < 40 := by omega
    clear e hS
    go_enter Tryd.func19, Tryd.ntmps19
    go_wp2_with fail
    go_ret2
    exact ⟨rfl, Fr.refl _ _⟩
  · obtain ⟨a, b, c, d, r1, hd1⟩ := four_of (S.drop 32) (by simp; omega)
    obtain ⟨e, f, g, h, r2, hd2⟩ := four_of (S.drop 36) (by simp; omega)
    have hN := numS_words S a b c d e f g h r1 r2 hd1 hd2
    have hf1 := fun w => four_any (s.extract 32 s.size) a b c d r1 (by rw [extract_rest _ _ _ rfl, ← hS]; exact hd1) w
    have hf2 := fun w => four_any (s.extract 36 s.size) e f g h r2 (by rw [extract_rest _ _ _ rfl, ← hS]; exact hd2) w
    obtain ⟨x, hx⟩ : ∃ x, x = be4 a b c d := ⟨_, rfl⟩
    obtain ⟨y, hy⟩ : ∃ y, y = be4 e f g h := ⟨_, rfl⟩
    rw [← hx] at hN hf1
    rw [← hy] at hN hf2
    have hxl := x.toNat_lt
    have hyl := y.toNat_lt
    have w5 : ∀ t, binOp .shl t (.int .u64 (wd x)) (.int .u64 32) = pure (.int .u64 ((x.toNat * 4294967296 : Nat) : Int)) := by
      intro t
      have e : IntKind.u64.wrap ((x.toNat : Int) * 4294967296) = ((x.toNat * 4294967296 : Nat) : Int) := by
        rw [show (x.toNat : Int) * 4294967296 = ((x.toNat * 4294967296 : Nat) : Int) by omega]; exact wrap64_nat _ (by omega)
      rw [binOp_shl]
      unfold wd
      simp [Op.shift, ← e]
      rw [show (2 : Int) ^ min 32 IntKind.u64.bits = 4294967296 from rfl]
    obtain ⟨N, hN0⟩ : ∃ N, N = numS S := ⟨_, rfl⟩
    have w6 : ∀ t, binOp .or t (.int .u64 ((x.toNat * 4294967296 : Nat) : Int)) (.int .u64 (wd y)) = pure (.int .u64 (N : Int)) := by
      intro t
      have e : bits .or .u64 ((x.toNat * 4294967296 : Nat) : Int) (wd y) = (N : Int) := by
        unfold wd
        rw [bits64_or _ _ (by omega) (by omega), hN0, hN]
        congr 1
        have := Nat.two_pow_add_eq_or_of_lt (i := 32) (b := y.toNat) (by omega) x.toNat
        rw [show x.toNat * 4294967296 = 2 ^ 32 * x.toNat by omega]
        exact this.symm
      rw [← e]; simp [binOp, intBits_or]
    have hNl : N < 18446744073709551616 := by omega
    generalize ((x.toNat * 4294967296 : Nat) : Int) = xs at w5 w6
    have k0 : ¬ (s.size : Int) < 40 := by omega
    have k1 : (32 : Int) ≤ s.size := by omega
    have k2 : (36 : Int) ≤ s.size := by omega
    have HN := Lib.hid hN0
    have HS := Lib.hid (And.intro hS hSl)
    clear hN hN0 hx hy hd1 hd2 hxl hyl h40 hS hSl
    go_enter Tryd.func19, Tryd.ntmps19
    go_wp2_with fail
    go_region_held3 (fun _ => True) (trivial) (first
      | (go_at_call 40; first
        | (refine (hf1 _).mono ?_; clear hf1; rintro e w3 ⟨rfl, q, rfl⟩)
        | (refine (hf2 _).mono ?_; rintro e w3 ⟨rfl, q2, rfl⟩)))
    by_cases hbad : 1099511627776 < N ∨ s.size ≠ 40 + N % 64
    · have e : restP S = none := by
        have := HN.out
        have := HS.out.2
        unfold restP; rw [if_neg (by omega), if_pos (by rw [← HN.out]; omega)]
      have HB := Lib.hid e
      clear e
      by_cases hb1 : 1099511627776 < N
      · have l1 : (1099511627776 : Int) < N := by omega
        clear hbad
        go_wp2_with fail
        go_ret2
        rw [HB.out]
        exact ⟨rfl, Fr.drewN _ _ _⟩
      · have l1 : ¬ (1099511627776 : Int) < N := by omega
        have w7 : (N : Int).tmod 64 = ((N % 64 : Nat) : Int) := by rw [Int.tmod_eq_emod_of_nonneg (by omega)]; omega
        have w8 : IntKind.i64.wrap ((N % 64 : Nat) : Int) = ((N % 64 : Nat) : Int) := IntWalk.i64_in _ (by omega)
        have w9 : IntKind.i64.wrap (40 + ((N % 64 : Nat) : Int)) = 40 + ((N % 64 : Nat) : Int) := IntWalk.i64_in _ (by omega)
        have l2 : ¬ (s.size : Int) = 40 + ((N % 64 : Nat) : Int) := by omega
        clear hbad
        go_wp2_with fail
        go_ret2
        rw [HB.out]
        exact ⟨rfl, Fr.drewN _ _ _⟩
    · have l1 : ¬ (1099511627776 : Int) < N := by omega
      have w7 : (N : Int).tmod 64 = ((N % 64 : Nat) : Int) := by rw [Int.tmod_eq_emod_of_nonneg (by omega)]; omega
      have w8 : IntKind.i64.wrap ((N % 64 : Nat) : Int) = ((N % 64 : Nat) : Int) := IntWalk.i64_in _ (by omega)
      have w9 : IntKind.i64.wrap (40 + ((N % 64 : Nat) : Int)) = 40 + ((N % 64 : Nat) : Int) := IntWalk.i64_in _ (by omega)
      have w10 : IntKind.i64.wrap (N : Int) = N := IntWalk.i64_in _ (by omega)
      have l2 : (s.size : Int) = 40 + ((N % 64 : Nat) : Int) := by omega
      have HG := Lib.hid hbad
      clear hbad
      go_wp2_with (first
        | refine wpList_built rfl _ _ rfl (hcells [0, 0, 0, 0, 0, 0, 0, 0] (zerosB 64) N).toArray (by kernel_rfl) ?_
        | fail)
      have A0 := At.alloc_new w 75 (hcells [0, 0, 0, 0, 0, 0, 0, 0] (zerosB 64) N).toArray
      rw [List.toList_toArray] at A0
      have hrl := hR.lt
      have hWl : (wordsB (S.take 32)).length = 8 := wordsB_len 8 _ (by have := HS.out.2; simp; omega)
      have L2 := Lib.hid l2
      clear l2 w7 w8 w9 w10 w5 w6 hf2 l1 k1 k2 k0
      go_loopw [35] (fun v wr => ∃ i : Nat, i ≤ 8 ∧ v = .int .i64 i ∧ At wr w.heap.size 75 (hcells (padH ((wordsB (S.take 32)).take i)) (zerosB 64) N) ∧ Fr [] w wr) (fun v _ => 8 - (intOf v).toNat)
      case atStart => exact ⟨0, by omega, rfl, A0.drewN _, (Fr.alloc _ _ _).trans (Fr.drewN _ _ _)⟩
      case round =>
        clear A0
        obtain ⟨i, hi, rfl, hA, hF⟩ := hrel
        by_cases hl : i < 8
        · have hsz := L2.out
          obtain ⟨hS, hSl⟩ := HS.out
          obtain ⟨a, b, c, d, r, hd, hgt⟩ := wordsB_get i (S.take 32) (by simp; omega)
          have hd2 : S.drop (4 * i) = a :: b :: c :: d :: (r ++ S.drop 32) := by
            have e : S.drop (4 * i) = (S.take 32).drop (4 * i) ++ S.drop 32 := by
              conv => lhs; rw [← List.take_append_drop 32 S]
              rw [List.drop_append_of_le_length (by simp; omega)]
            rw [e, hd]; rfl
          have hf4 := fun w => four_any (s.extract (4 * i) s.size) a b c d (r ++ S.drop 32) (by rw [extract_rest _ _ _ rfl, ← hS]; exact hd2) w
          have l1 : (i : Int) < 8 := by omega
          have w1 : IntKind.i64.wrap (4 * (i : Int)) = 4 * (i : Int) := IntWalk.i64_in _ (by omega)
          have t1 : (4 * (i : Int)).toNat = 4 * i := by omega
          have k1 : (0 : Int) ≤ 4 * (i : Int) := by omega
          have k2 : 4 * (i : Int) ≤ s.size := by omega
          have hk : ((wordsB (S.take 32)).take i).length = i := by simp; omega
          have hset := padH_set ((wordsB (S.take 32)).take i) (be4 a b c d) (by omega)
          rw [hk] at hset
          have htk : (wordsB (S.take 32)).take (i + 1) = (wordsB (S.take 32)).take i ++ [be4 a b c d] := by rw [List.take_add_one, hgt]; rfl
          rw [← htk] at hset
          have hpl := padH_len ((wordsB (S.take 32)).take i) (by omega)
          have HX := Lib.hid (hcells_set (padH ((wordsB (S.take 32)).take i)) (zerosB 64) N i (be4 a b c d) (by omega))
          rw [hset] at HX
          have ci := hA.cell i
          have fi := hA.frozen i
          have hci : (hcells (padH ((wordsB (S.take 32)).take i)) (zerosB 64) N)[i]? = some (.int .u32 (wd ((padH ((wordsB (S.take 32)).take i)).getD i 0))) := by
            unfold hcells
            rw [List.append_assoc, List.getElem?_append_left (by rw [wcells_len]; omega), wcells_get _ _ (by omega)]
          rw [hci] at ci
          generalize (padH ((wordsB (S.take 32)).take i)).getD i 0 = old at ci
          generalize be4 a b c d = x at hf4 HX
          clear hci hpl htk hset hk hd2 hgt hd hS hSl hsz
          go_wp2_with fail
          refine wp_region_until (fun _ => True) (fun _ => True) 1000 (by rfl) ?_
          have hT : True := trivial
          refine until_s0 0 (v := ?_) rfl (by kernel_rfl) (fun _ _ _ h => h) (Or.inl ⟨by rfl, ?_⟩) (by assumption) (fun h => by first | assumption | exact absurd (h : true = false) (by decide)) ?_
          rotate_left
          · intro w hSw; (try dsimp only at hSw); (try go_simp); (try with_reducible rfl)
          try simp only [Act.put, List.setIfInBounds_toArray, List.set_cons_zero, List.set_cons_succ]
          refine until_s0 1 (v := ?_) rfl (by kernel_rfl) (fun _ _ _ h => h) (Or.inl ⟨by rfl, ?_⟩) (by assumption) (fun h => by first | assumption | exact absurd (h : true = false) (by decide)) ?_
          rotate_left
          · intro w hSw; (try dsimp only at hSw); (try go_simp); (try with_reducible rfl)
          try simp only [Act.put, List.setIfInBounds_toArray, List.set_cons_zero, List.set_cons_succ]
          refine until_s0 2 (v := ?_) rfl (by kernel_rfl) (fun _ _ _ h => h) (Or.inl ⟨by rfl, ?_⟩) (by assumption) (fun h => by first | assumption | exact absurd (h : true = false) (by decide)) ?_
          rotate_left
          · intro w hSw; (try dsimp only at hSw); (try go_simp); (try with_reducible rfl)
          try simp only [Act.put, List.setIfInBounds_toArray, List.set_cons_zero, List.set_cons_succ]
          refine until_s0 3 (v := ?_) rfl (by kernel_rfl) (fun _ _ _ h => h) (Or.inl ⟨by rfl, ?_⟩) (by assumption) (fun h => by first | assumption | exact absurd (h : true = false) (by decide)) ?_
          rotate_left
          · intro w hSw; (try dsimp only at hSw); (try go_simp); (try with_reducible rfl)
          try simp only [Act.put, List.setIfInBounds_toArray, List.set_cons_zero, List.set_cons_succ]
          refine until_s0 4 (v := ?_) rfl (by kernel_rfl) (fun _ _ _ h => h) (Or.inl ⟨by rfl, ?_⟩) (by assumption) (fun h => by first | assumption | exact absurd (h : true = false) (by decide)) ?_
          rotate_left
          · intro w hSw; (try dsimp only at hSw); (try go_simp); (try with_reducible rfl)
          try simp only [Act.put, List.setIfInBounds_toArray, List.set_cons_zero, List.set_cons_succ]
          refine until_s0 5 (v := ?_) rfl (by kernel_rfl) (fun _ _ _ h => h) (Or.inl ⟨by rfl, ?_⟩) (by assumption) (fun h => by first | assumption | exact absurd (h : true = false) (by decide)) ?_
          rotate_left
          · intro w hSw; (try dsimp only at hSw); (try go_simp); (try with_reducible rfl)
          try simp only [Act.put, List.setIfInBounds_toArray, List.set_cons_zero, List.set_cons_succ]
          refine until_s0 7 (v := ?_) rfl (by kernel_rfl) (fun _ _ _ h => h) (Or.inl ⟨by rfl, ?_⟩) (by assumption) (fun h => by first | assumption | exact absurd (h : true = false) (by decide)) ?_
          rotate_left
          · intro w hSw; (try dsimp only at hSw); (try go_simp); (try with_reducible rfl)
          try simp only [Act.put, List.setIfInBounds_toArray, List.set_cons_zero, List.set_cons_succ]
          refine until_s0 8 (v := ?_) rfl (by kernel_rfl) (fun _ _ _ h => h) (Or.inl ⟨by rfl, ?_⟩) (by assumption) (fun h => by first | assumption | exact absurd (h : true = false) (by decide)) ?_
          rotate_left
          · intro w hSw; (try dsimp only at hSw); (try go_simp); (try with_reducible rfl)
          try simp only [Act.put, List.setIfInBounds_toArray, List.set_cons_zero, List.set_cons_succ]
          refine until_sole 6 rfl (by kernel_rfl) (by rfl) ?_
          intro K' hK
          go_simp
          go_at_call 40
          refine (hf4 _).mono ?_
          rintro e w3 ⟨rfl, q3, rfl⟩
          go_wp2_with fail
          refine hK _ _ trivial (fun _ => trivial) ?_
          clear hK
          refine until_s0 9 (v := ?_) rfl (by kernel_rfl) (fun _ _ _ h => h) (Or.inl ⟨by rfl, ?_⟩) (by assumption) (fun h => by first | assumption | exact absurd (h : true = false) (by decide)) ?_
          rotate_left
          · intro w hSw; (try dsimp only at hSw); (try go_simp); (try with_reducible rfl)
          try simp only [Act.put, List.setIfInBounds_toArray, List.set_cons_zero, List.set_cons_succ]
          refine until_sole 10 rfl (by kernel_rfl) (by rfl) ?_
          intro K' hK
          go_simp
          refine hK _ _ trivial (fun _ => trivial) ?_
          clear hK
          refine until_done (by kernel_rfl) ?_ _
          go_wp2_with fail
          refine ⟨⟨i + 1, by omega, by simp, ?_, ?_⟩, by simp only [intOf]; omega⟩
          · rw [← HX.out]
            exact (hA.setCell i _).drewN _
          · exact hF.new (S := [w.heap.size]) ((Fr.setCell [w.heap.size] wr ⟨w.heap.size, i, none⟩ _ (.inl (by simp))).trans (Fr.drewN _ _ _)) (by simp)
        · obtain rfl : i = 8 := by omega
          rw [List.take_of_length_le (by omega)] at hA
          obtain ⟨WH, hWH⟩ : ∃ WH, WH = wordsB (S.take 32) := ⟨_, rfl⟩
          rw [← hWH] at hA hWl
          have hpad : padH WH = WH := by simp [padH, hWl]
          rw [hpad] at hA
          have HW := Lib.hid hWH
          clear hpad hWH
          obtain ⟨hS, hSl⟩ := HS.out
          have hG := HG.out
          have hrl40 : (S.drop 40).length = N % 64 := by simp; omega
          have hxsz : (s.extract 40 s.size).data.toList = S.drop 40 := by rw [extract_rest _ _ _ rfl, ← hS]
          have hxl : (s.extract 40 s.size).size = N % 64 := by
            have := congrArg List.length hxsz; rw [hrl40] at this; simpa using this
          have hcp : ∀ ty w', At w' w.heap.size 75 (hcells WH (zerosB 64) N) → (Builtin.copy_ #[28, 9] ty #[.slice (some ⟨w.heap.size, 8, none⟩) 64 64, .string (s.extract 40 s.size)]).run Tryd.prog w' = .ok (.int .i64 ((N % 64 : Nat) : Int)) (w'.setRow w.heap.size (hcells WH (S.drop 40 ++ (zerosB 64).drop (N % 64)) N).toArray) := by
            intro ty w' hA'
            have := run_copy_cut (P := Tryd.prog) w' 28 9 ty 5 w.heap.size 8 64 64 (s.extract 40 s.size) _ _ Tryd.underlying28 (by kernel_rfl) hA'.out (N % 64) (by rw [hxl]; omega) (by simp [hcells, wcells_len, byteCells_length, hWl, zerosB]; omega)
            rw [this]
            have e := hcells_copy WH (zerosB 64) (S.drop 40) N 0 hWl (by simp [zerosB]) (by omega)
            rw [hrl40, List.take_zero, List.nil_append, Nat.zero_add] at e
            rw [hxsz, List.take_of_length_le (show (S.drop 40).length ≤ N % 64 by omega), List.toList_toArray]
            rw [show 8 + 0 = 8 from rfl] at e
            rw [e]; rfl
          have hHold : ∀ w', At w' w.heap.size 75 (hcells WH (S.drop 40 ++ (zerosB 64).drop (N % 64)) N) → Hold w' w.heap.size WH (S.drop 40) N := fun w' h => ⟨Nat.ne_of_gt hrl, hWl, hrl40.symm, _, by rw [List.length_append, hrl40]; simp [zerosB]; omega, by rw [List.take_left], h⟩
          have k1 : (40 : Int) ≤ s.size := by omega
          clear hS hSl hG hrl40 hxsz hxl
          by_cases h64 : N < 64
          · have l1 : (N : Int) < 64 := by omega
            go_wp2_with fail
            refine wp_region_until (fun w' => At w' w.heap.size 75 (hcells WH (zerosB 64) N) ∧ w'.rangeAt 0 0 (wcells firstL)) (fun _ => True) 1000 (by rfl) ?_
            have hT : True := trivial
            have s0 : _ ∧ _ := ⟨hA.drew, (hI.keep (hF.trans (Fr.drew _ _)))⟩
            obtain ⟨bo, hbo⟩ : ∃ bo, bo = decide (WH = firstL) := ⟨_, rfl⟩
            have heq : ∀ w, (Op.equalIn 10000 72 (.agg (wcells WH).toArray) (.agg (wcells firstL).toArray)).run Tryd.prog w = .ok bo w := fun w => by rw [hbo]; exact eq8 WH firstL hWl rfl w
            have HBO := Lib.hid hbo
            clear hbo
            refine until_s0 0 (v := ?_) rfl (by kernel_rfl) (fun _ _ _ h => h) (Or.inl ⟨by rfl, ?_⟩) (by assumption) (fun h => by first | assumption | exact absurd (h : true = false) (by decide)) ?_
            rotate_left
            · intro w hSw; (try dsimp only at hSw); (try go_simp); (try with_reducible rfl)
            try simp only [Act.put, List.setIfInBounds_toArray, List.set_cons_zero, List.set_cons_succ]
            refine until_s0 1 (v := ?_) rfl (by kernel_rfl) (fun _ _ _ h => h) (Or.inl ⟨by rfl, ?_⟩) (by assumption) (fun h => by first | assumption | exact absurd (h : true = false) (by decide)) ?_
            rotate_left
            · intro w hSw; (try dsimp only at hSw); (try go_simp); (try with_reducible rfl)
            try simp only [Act.put, List.setIfInBounds_toArray, List.set_cons_zero, List.set_cons_succ]
            refine until_s0 2 (v := ?_) rfl (by kernel_rfl) (fun _ _ _ h => h) (Or.inl ⟨by rfl, ?_⟩) (by assumption) (fun h => by first | assumption | exact absurd (h : true = false) (by decide)) ?_
            rotate_left
            · intro w hSw; (try dsimp only at hSw); (try go_simp); (try with_reducible rfl)
            try simp only [Act.put, List.setIfInBounds_toArray, List.set_cons_zero, List.set_cons_succ]
            refine until_s0 3 (v := ?_) rfl (by kernel_rfl) (fun _ _ _ h => h) (Or.inl ⟨by rfl, ?_⟩) (by assumption) (fun h => by first | assumption | exact absurd (h : true = false) (by decide)) ?_
            rotate_left
            · intro w hSw; (try dsimp only at hSw); (try go_simp); (try with_reducible rfl)
            try simp only [Act.put, List.setIfInBounds_toArray, List.set_cons_zero, List.set_cons_succ]
            refine until_s0 4 (v := ?_) rfl (by kernel_rfl) (fun _ _ _ h => h) (Or.inl ⟨by rfl, ?_⟩) (by assumption) (fun h => by first | assumption | exact absurd (h : true = false) (by decide)) ?_
            rotate_left
            · intro w hSw; (try dsimp only at hSw); (try go_simp); (try with_reducible rfl)
            try simp only [Act.put, List.setIfInBounds_toArray, List.set_cons_zero, List.set_cons_succ]
            refine until_s0 5 (v := ?_) rfl (by kernel_rfl) (fun _ _ _ h => h) (Or.inl ⟨by rfl, ?_⟩) (by assumption) (fun h => by first | assumption | exact absurd (h : true = false) (by decide)) ?_
            rotate_left
            · intro w hSw; (try dsimp only at hSw); (try go_simp); (try with_reducible rfl)
            try simp only [Act.put, List.setIfInBounds_toArray, List.set_cons_zero, List.set_cons_succ]
            refine until_s0 6 (v := .agg (wcells WH).toArray) rfl (by kernel_rfl) (fun _ _ _ h => h) (yieldsIf_load_mid (by rfl) _ _ rfl w.heap.size 0 rfl (wcells WH) _ (fun w h => state_range h.1) Tryd.underlying72 rfl (by rw [wcells_len, hWl]; kernel_rfl)) (by assumption) (fun h => by assumption) ?_
            try simp only [Act.put, List.setIfInBounds_toArray, List.set_cons_zero, List.set_cons_succ]
            refine until_s0 7 (v := .agg (wcells firstL).toArray) rfl (by kernel_rfl) (fun _ _ _ h => h) (yieldsIf_load_mid (by rfl) _ _ rfl 0 0 rfl (wcells firstL) _ (fun w h => h.2) Tryd.underlying72 rfl (by kernel_rfl)) (by assumption) (fun h => by assumption) ?_
            try simp only [Act.put, List.setIfInBounds_toArray, List.set_cons_zero, List.set_cons_succ]
            refine until_s0 8 (v := ?_) rfl (by kernel_rfl) (fun _ _ _ h => h) (Or.inl ⟨by rfl, ?_⟩) (by assumption) (fun h => by first | assumption | exact absurd (h : true = false) (by decide)) ?_
            rotate_left
            · intro w hSw; (try dsimp only at hSw); (try go_simp); (try with_reducible rfl)
            try simp only [Act.put, List.setIfInBounds_toArray, List.set_cons_zero, List.set_cons_succ]
            refine until_s0 9 (v := ?_) rfl (by kernel_rfl) (fun _ _ _ h => h) (Or.inl ⟨by rfl, ?_⟩) (by assumption) (fun h => by first | assumption | exact absurd (h : true = false) (by decide)) ?_
            rotate_left
            · intro w hSw; (try dsimp only at hSw); (try go_simp); (try with_reducible rfl)
            try simp only [Act.put, List.setIfInBounds_toArray, List.set_cons_zero, List.set_cons_succ]
            refine until_done (by kernel_rfl) ?_ _
            clear s0
            clear heq
            cases bo
            case true =>
              have hWF : WH = firstL := of_decide_eq_true HBO.out.symm
              have e : restP S = some (WH, S.drop 40, N) := by
                have hG := HG.out
                obtain ⟨hS, hSl⟩ := HS.out
                have hN := HN.out
                unfold restP
                rw [if_neg (by omega), if_neg (by rw [← hN]; omega), if_neg (by rintro ⟨h1, h2⟩; exact h2 (by rw [← HW.out]; exact hWF)), ← HW.out, ← hN]
              have HB := Lib.hid e
              clear e hWF
              go_wp2_with fail
              refine wp_region_until (fun _ => True) (fun _ => True) 1000 (by rfl) ?_
              refine until_s0 0 (v := ?_) rfl (by kernel_rfl) (fun _ _ _ h => h) (Or.inl ⟨by rfl, ?_⟩) (by assumption) (fun h => by first | assumption | exact absurd (h : true = false) (by decide)) ?_
              rotate_left
              · intro w hSw; (try dsimp only at hSw); (try go_simp); (try with_reducible rfl)
              try simp only [Act.put, List.setIfInBounds_toArray, List.set_cons_zero, List.set_cons_succ]
              refine until_s0 1 (v := ?_) rfl (by kernel_rfl) (fun _ _ _ h => h) (Or.inl ⟨by rfl, ?_⟩) (by assumption) (fun h => by first | assumption | exact absurd (h : true = false) (by decide)) ?_
              rotate_left
              · intro w hSw; (try dsimp only at hSw); (try go_simp); (try with_reducible rfl)
              try simp only [Act.put, List.setIfInBounds_toArray, List.set_cons_zero, List.set_cons_succ]
              refine until_s0 2 (v := ?_) rfl (by kernel_rfl) (fun _ _ _ h => h) (Or.inl ⟨by rfl, ?_⟩) (by assumption) (fun h => by first | assumption | exact absurd (h : true = false) (by decide)) ?_
              rotate_left
              · intro w hSw; (try dsimp only at hSw); (try go_simp); (try with_reducible rfl)
              try simp only [Act.put, List.setIfInBounds_toArray, List.set_cons_zero, List.set_cons_succ]
              refine until_s0 3 (v := ?_) rfl (by kernel_rfl) (fun _ _ _ h => h) (Or.inl ⟨by rfl, ?_⟩) (by assumption) (fun h => by first | assumption | exact absurd (h : true = false) (by decide)) ?_
              rotate_left
              · intro w hSw; (try dsimp only at hSw); (try go_simp); (try with_reducible rfl)
              try simp only [Act.put, List.setIfInBounds_toArray, List.set_cons_zero, List.set_cons_succ]
              refine until_s0 4 (v := ?_) rfl (by kernel_rfl) (fun _ _ _ h => h) (Or.inl ⟨by rfl, ?_⟩) (by assumption) (fun h => by first | assumption | exact absurd (h : true = false) (by decide)) ?_
              rotate_left
              · intro w hSw; (try dsimp only at hSw); (try go_simp); (try with_reducible rfl)
              try simp only [Act.put, List.setIfInBounds_toArray, List.set_cons_zero, List.set_cons_succ]
              refine until_s0 5 (v := ?_) rfl (by kernel_rfl) (fun _ _ _ h => h) (Or.inl ⟨by rfl, ?_⟩) (by assumption) (fun h => by first | assumption | exact absurd (h : true = false) (by decide)) ?_
              rotate_left
              · intro w hSw; (try dsimp only at hSw); (try go_simp); (try with_reducible rfl)
              try simp only [Act.put, List.setIfInBounds_toArray, List.set_cons_zero, List.set_cons_succ]
              refine until_sole 6 rfl (by kernel_rfl) (by rfl) ?_
              intro K' hK
              go_simp
              refine hK _ _ trivial (fun _ => trivial) ?_
              clear hK
              refine until_done (by kernel_rfl) ?_ _
              go_wp2_with fail
              go_ret2
              rw [HB.out]
              have A2 := hA.setRow (hcells WH (S.drop 40 ++ (zerosB 64).drop (N % 64)) N).toArray
              rw [List.toList_toArray] at A2
              exact ⟨_, rfl, Nat.le_refl _, hHold _ A2, hF.new (S := [w.heap.size]) (((Fr.setRow [w.heap.size] wr w.heap.size _ (.inl (by simp))).trans (Fr.drew _ _)).trans (Fr.drew _ _)) (by simp)⟩
            case false =>
              have hWF : ¬ WH = firstL := of_decide_eq_false HBO.out.symm
              have e : restP S = none := by
                have hG := HG.out
                obtain ⟨hS, hSl⟩ := HS.out
                have hN := HN.out
                unfold restP
                rw [if_neg (by omega), if_neg (by rw [← hN]; omega), if_pos ⟨by rw [← hN]; exact h64, by rw [← HW.out]; exact hWF⟩]
              have HB := Lib.hid e
              clear e hWF
              go_wp2_with fail
              go_ret2
              rw [HB.out]
              exact ⟨rfl, hF.trans (Fr.drew _ _)⟩
          · have l1 : ((N : Int) < 64) = False := eq_false (by omega)
            go_wp2_with fail
            refine wp_region_until (fun _ => True) (fun _ => True) 1000 (by rfl) ?_
            have hT : True := trivial
            refine until_s0 0 (v := ?_) rfl (by kernel_rfl) (fun _ _ _ h => h) (Or.inl ⟨by rfl, ?_⟩) (by assumption) (fun h => by first | assumption | exact absurd (h : true = false) (by decide)) ?_
            rotate_left
            · intro w hSw; (try dsimp only at hSw); (try go_simp); (try with_reducible rfl)
            try simp only [Act.put, List.setIfInBounds_toArray, List.set_cons_zero, List.set_cons_succ]
            refine until_s0 1 (v := ?_) rfl (by kernel_rfl) (fun _ _ _ h => h) (Or.inl ⟨by rfl, ?_⟩) (by assumption) (fun h => by first | assumption | exact absurd (h : true = false) (by decide)) ?_
            rotate_left
            · intro w hSw; (try dsimp only at hSw); (try go_simp); (try with_reducible rfl)
            try simp only [Act.put, List.setIfInBounds_toArray, List.set_cons_zero, List.set_cons_succ]
            refine until_s0 2 (v := ?_) rfl (by kernel_rfl) (fun _ _ _ h => h) (Or.inl ⟨by rfl, ?_⟩) (by assumption) (fun h => by first | assumption | exact absurd (h : true = false) (by decide)) ?_
            rotate_left
            · intro w hSw; (try dsimp only at hSw); (try go_simp); (try with_reducible rfl)
            try simp only [Act.put, List.setIfInBounds_toArray, List.set_cons_zero, List.set_cons_succ]
            refine until_s0 3 (v := undef) rfl (by kernel_rfl) (fun _ _ _ h => h) (Or.inr ⟨by rfl, rfl⟩) (by assumption) (fun h => by assumption) ?_
            try simp only [Act.put, List.setIfInBounds_toArray, List.set_cons_zero, List.set_cons_succ]
            refine until_s0 4 (v := undef) rfl (by kernel_rfl) (fun _ _ _ h => h) (Or.inr ⟨by rfl, rfl⟩) (by assumption) (fun h => by assumption) ?_
            try simp only [Act.put, List.setIfInBounds_toArray, List.set_cons_zero, List.set_cons_succ]
            refine until_s0 5 (v := undef) rfl (by kernel_rfl) (fun _ _ _ h => h) (Or.inr ⟨by rfl, rfl⟩) (by assumption) (fun h => by assumption) ?_
            try simp only [Act.put, List.setIfInBounds_toArray, List.set_cons_zero, List.set_cons_succ]
            refine until_s0 6 (v := undef) rfl (by kernel_rfl) (fun _ _ _ h => h) (Or.inr ⟨by rfl, rfl⟩) (by assumption) (fun h => by assumption) ?_
            try simp only [Act.put, List.setIfInBounds_toArray, List.set_cons_zero, List.set_cons_succ]
            refine until_s0 7 (v := undef) rfl (by kernel_rfl) (fun _ _ _ h => h) (Or.inr ⟨by rfl, rfl⟩) (by assumption) (fun h => by assumption) ?_
            try simp only [Act.put, List.setIfInBounds_toArray, List.set_cons_zero, List.set_cons_succ]
            refine until_s0 8 (v := undef) rfl (by kernel_rfl) (fun _ _ _ h => h) (Or.inr ⟨by rfl, rfl⟩) (by assumption) (fun h => by assumption) ?_
            try simp only [Act.put, List.setIfInBounds_toArray, List.set_cons_zero, List.set_cons_succ]
            refine until_s0 9 (v := ?_) rfl (by kernel_rfl) (fun _ _ _ h => h) (Or.inl ⟨by rfl, ?_⟩) (by assumption) (fun h => by first | assumption | exact absurd (h : true = false) (by decide)) ?_
            rotate_left
            · intro w hSw; (try dsimp only at hSw); (try go_simp); (try with_reducible rfl)
            try simp only [Act.put, List.setIfInBounds_toArray, List.set_cons_zero, List.set_cons_succ]
            refine until_done (by kernel_rfl) ?_ _
            have e : restP S = some (WH, S.drop 40, N) := by
              have hG := HG.out
              obtain ⟨hS, hSl⟩ := HS.out
              have hN := HN.out
              unfold restP
              rw [if_neg (by omega), if_neg (by rw [← hN]; omega), if_neg (by rintro ⟨h1, h2⟩; rw [← hN] at h1; omega), ← HW.out, ← hN]
            have HB := Lib.hid e
            clear e
            go_wp2_with fail
            refine wp_region_until (fun _ => True) (fun _ => True) 1000 (by rfl) ?_
            refine until_s0 0 (v := ?_) rfl (by kernel_rfl) (fun _ _ _ h => h) (Or.inl ⟨by rfl, ?_⟩) (by assumption) (fun h => by first | assumption | exact absurd (h : true = false) (by decide)) ?_
            rotate_left
            · intro w hSw; (try dsimp only at hSw); (try go_simp); (try with_reducible rfl)
            try simp only [Act.put, List.setIfInBounds_toArray, List.set_cons_zero, List.set_cons_succ]
            refine until_s0 1 (v := ?_) rfl (by kernel_rfl) (fun _ _ _ h => h) (Or.inl ⟨by rfl, ?_⟩) (by assumption) (fun h => by first | assumption | exact absurd (h : true = false) (by decide)) ?_
            rotate_left
            · intro w hSw; (try dsimp only at hSw); (try go_simp); (try with_reducible rfl)
            try simp only [Act.put, List.setIfInBounds_toArray, List.set_cons_zero, List.set_cons_succ]
            refine until_s0 2 (v := ?_) rfl (by kernel_rfl) (fun _ _ _ h => h) (Or.inl ⟨by rfl, ?_⟩) (by assumption) (fun h => by first | assumption | exact absurd (h : true = false) (by decide)) ?_
            rotate_left
            · intro w hSw; (try dsimp only at hSw); (try go_simp); (try with_reducible rfl)
            try simp only [Act.put, List.setIfInBounds_toArray, List.set_cons_zero, List.set_cons_succ]
            refine until_s0 3 (v := ?_) rfl (by kernel_rfl) (fun _ _ _ h => h) (Or.inl ⟨by rfl, ?_⟩) (by assumption) (fun h => by first | assumption | exact absurd (h : true = false) (by decide)) ?_
            rotate_left
            · intro w hSw; (try dsimp only at hSw); (try go_simp); (try with_reducible rfl)
            try simp only [Act.put, List.setIfInBounds_toArray, List.set_cons_zero, List.set_cons_succ]
            refine until_s0 4 (v := ?_) rfl (by kernel_rfl) (fun _ _ _ h => h) (Or.inl ⟨by rfl, ?_⟩) (by assumption) (fun h => by first | assumption | exact absurd (h : true = false) (by decide)) ?_
            rotate_left
            · intro w hSw; (try dsimp only at hSw); (try go_simp); (try with_reducible rfl)
            try simp only [Act.put, List.setIfInBounds_toArray, List.set_cons_zero, List.set_cons_succ]
            refine until_s0 5 (v := ?_) rfl (by kernel_rfl) (fun _ _ _ h => h) (Or.inl ⟨by rfl, ?_⟩) (by assumption) (fun h => by first | assumption | exact absurd (h : true = false) (by decide)) ?_
            rotate_left
            · intro w hSw; (try dsimp only at hSw); (try go_simp); (try with_reducible rfl)
            try simp only [Act.put, List.setIfInBounds_toArray, List.set_cons_zero, List.set_cons_succ]
            refine until_sole 6 rfl (by kernel_rfl) (by rfl) ?_
            intro K' hK
            go_simp
            refine hK _ _ trivial (fun _ => trivial) ?_
            clear hK
            refine until_done (by kernel_rfl) ?_ _
            go_wp2_with fail
            go_ret2
            rw [HB.out]
            have A2 := hA.setRow (hcells WH (S.drop 40 ++ (zerosB 64).drop (N % 64)) N).toArray
            rw [List.toList_toArray] at A2
            exact ⟨_, rfl, Nat.le_refl _, hHold _ A2, hF.new (S := [w.heap.size]) (((Fr.setRow [w.heap.size] wr w.heap.size _ (.inl (by simp))).trans (Fr.drew _ _)).trans (Fr.drew _ _)) (by simp)⟩
end Go.Proofs.YtkagmoaapampgaaDoor
