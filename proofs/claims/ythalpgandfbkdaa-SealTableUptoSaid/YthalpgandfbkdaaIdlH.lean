/- The law's boxes: within the limits. (mkwithin.py wrote it.) -/
import Derived.Test.YthalpgandfbkdaaIdlG
namespace Go.Proofs.Ythalpgandfbkdaa
open Go.RowKit Go.Lib Go.Joins Base Go.Maps
set_option linter.unusedVariables false
set_option linter.unusedSimpArgs false

/-- A box: the kind, the name, the text, the seed. -/
structure Bx where
  k : Int
  name : ByteArray
  text : ByteArray
  seed : Int
def bxC (b : Bx) : List Value := [.int .i64 b.k, .string b.name, .string b.text, .int .i64 b.seed]
def cutB (s : ByteArray) (n : Nat) : ByteArray := if n < s.size then s.extract 0 n else s
theorem cutB_size (s : ByteArray) (n : Nat) : (cutB s n).size ≤ n := by
  unfold cutB
  split
  · rw [ByteArray.size_extract]; omega
  · omega
def withinB (b : Bx) : Bx := ⟨((1 + modN b.k 3 : Nat) : Int), cutB b.name 64, cutB b.text 4096, b.seed⟩
theorem withinB_k (b : Bx) : 1 ≤ (withinB b).k ∧ (withinB b).k ≤ 3 := by
  have := modN_lt b.k 3 (by omega)
  show (1 : Int) ≤ ((1 + modN b.k 3 : Nat) : Int) ∧ ((1 + modN b.k 3 : Nat) : Int) ≤ 3
  omega
theorem box_one (b : Bx) : ∀ v ∈ bxC b, v.oneCell' = true := by
  intro v hv; simp only [bxC, List.mem_cons, List.not_mem_nil, or_false] at hv; rcases hv with rfl | rfl | rfl | rfl <;> rfl
set_option maxRecDepth 100000 in
set_option maxHeartbeats 1000000 in
theorem within_any (b : Bx) (w : World) :
    Calls Try.prog 18 #[.agg (bxC b).toArray] w fun e w' => e = .returned (.agg (bxC (withinB b)).toArray) ∧ Fr [] w w' := by
  obtain ⟨k, x, t, s⟩ := b
  have c1 := fun w => modI_any k 3 (by omega) w
  rw [show ((3 : Nat) : Int) = 3 from rfl] at c1
  have hm := modN_lt k 3 (by omega)
  have hw : withinB ⟨k, x, t, s⟩ = ⟨((1 + modN k 3 : Nat) : Int), cutB x 64, cutB t 4096, s⟩ := rfl
  rw [hw]
  clear hw
  obtain ⟨m, hmm⟩ : ∃ m, m = modN k 3 := ⟨_, rfl⟩
  rw [← hmm] at c1 hm ⊢
  clear hmm
  have w1 : IntKind.i64.wrap (1 + (m : Int)) = ((1 + m : Nat) : Int) := by rw [IntWalk.i64_in _ (by omega)]; omega
  obtain ⟨k2, hk2⟩ : ∃ k2, k2 = 1 + m := ⟨_, rfl⟩
  rw [← hk2] at w1 ⊢
  clear hk2 hm
  by_cases h1 : 64 < x.size
  · by_cases h2 : 4096 < t.size
    · rw [show cutB x 64 = x.extract 0 64 from if_pos h1, show cutB t 4096 = t.extract 0 4096 from if_pos h2]
      have l1 : (64 : Int) < x.size := by omega
      have l2 : (4096 : Int) < t.size := by omega
      have l3 : (64 : Int) ≤ x.size := by omega
      have l4 : (4096 : Int) ≤ t.size := by omega
      clear h1 h2
      show Calls Try.prog 18 #[.agg #[.int .i64 k, .string x, .string t, .int .i64 s]] w fun e w' => e = .returned (.agg #[.int .i64 (k2 : Int), .string (x.extract 0 64), .string (t.extract 0 4096), .int .i64 s]) ∧ Fr [] w w'
      go_enter Try.func18, Try.ntmps18
      go_wp2_with (first
        | (go_at_call 8; refine (c1 _).mono ?_; clear c1; rintro e w1 ⟨rfl, rfl⟩)
        | fail)
      have A := At.alloc_new (w.alloc (.cells #[.int .i64 (k2 : Int), .string (x.extract 0 64), .string (t.extract 0 4096), .int .i64 s] 44)) 44 #[.int .i64 (k2 : Int), .string (x.extract 0 64), .string (t.extract 0 4096), .int .i64 s]
      refine ⟨rfl, _, ?_, rfl, (Fr.alloc _ _ _).trans (Fr.alloc _ _ _)⟩
      exact results_cell_row (p := 2) (ty := 44) (by rfl) _ _ (w.heap.size + 1) 44 _ (0, 0) _ rfl (by have := A.out; simpa using this) Try.underlying44 rfl (by kernel_rfl)
    · rw [show cutB x 64 = x.extract 0 64 from if_pos h1, show cutB t 4096 = t from if_neg h2]
      have l1 : (64 : Int) < x.size := by omega
      have l2 : ¬ (4096 : Int) < t.size := by omega
      have l3 : (64 : Int) ≤ x.size := by omega
      clear h1 h2
      show Calls Try.prog 18 #[.agg #[.int .i64 k, .string x, .string t, .int .i64 s]] w fun e w' => e = .returned (.agg #[.int .i64 (k2 : Int), .string (x.extract 0 64), .string (t), .int .i64 s]) ∧ Fr [] w w'
      go_enter Try.func18, Try.ntmps18
      go_wp2_with (first
        | (go_at_call 8; refine (c1 _).mono ?_; clear c1; rintro e w1 ⟨rfl, rfl⟩)
        | fail)
      have A := At.alloc_new (w.alloc (.cells #[.int .i64 (k2 : Int), .string (x.extract 0 64), .string (t), .int .i64 s] 44)) 44 #[.int .i64 (k2 : Int), .string (x.extract 0 64), .string (t), .int .i64 s]
      refine ⟨rfl, _, ?_, rfl, (Fr.alloc _ _ _).trans (Fr.alloc _ _ _)⟩
      exact results_cell_row (p := 2) (ty := 44) (by rfl) _ _ (w.heap.size + 1) 44 _ (0, 0) _ rfl (by have := A.out; simpa using this) Try.underlying44 rfl (by kernel_rfl)
  · by_cases h2 : 4096 < t.size
    · rw [show cutB x 64 = x from if_neg h1, show cutB t 4096 = t.extract 0 4096 from if_pos h2]
      have l1 : ¬ (64 : Int) < x.size := by omega
      have l2 : (4096 : Int) < t.size := by omega
      have l4 : (4096 : Int) ≤ t.size := by omega
      clear h1 h2
      show Calls Try.prog 18 #[.agg #[.int .i64 k, .string x, .string t, .int .i64 s]] w fun e w' => e = .returned (.agg #[.int .i64 (k2 : Int), .string (x), .string (t.extract 0 4096), .int .i64 s]) ∧ Fr [] w w'
      go_enter Try.func18, Try.ntmps18
      go_wp2_with (first
        | (go_at_call 8; refine (c1 _).mono ?_; clear c1; rintro e w1 ⟨rfl, rfl⟩)
        | fail)
      have A := At.alloc_new (w.alloc (.cells #[.int .i64 (k2 : Int), .string (x), .string (t.extract 0 4096), .int .i64 s] 44)) 44 #[.int .i64 (k2 : Int), .string (x), .string (t.extract 0 4096), .int .i64 s]
      refine ⟨rfl, _, ?_, rfl, (Fr.alloc _ _ _).trans (Fr.alloc _ _ _)⟩
      exact results_cell_row (p := 2) (ty := 44) (by rfl) _ _ (w.heap.size + 1) 44 _ (0, 0) _ rfl (by have := A.out; simpa using this) Try.underlying44 rfl (by kernel_rfl)
    · rw [show cutB x 64 = x from if_neg h1, show cutB t 4096 = t from if_neg h2]
      have l1 : ¬ (64 : Int) < x.size := by omega
      have l2 : ¬ (4096 : Int) < t.size := by omega
      clear h1 h2
      show Calls Try.prog 18 #[.agg #[.int .i64 k, .string x, .string t, .int .i64 s]] w fun e w' => e = .returned (.agg #[.int .i64 (k2 : Int), .string (x), .string (t), .int .i64 s]) ∧ Fr [] w w'
      go_enter Try.func18, Try.ntmps18
      go_wp2_with (first
        | (go_at_call 8; refine (c1 _).mono ?_; clear c1; rintro e w1 ⟨rfl, rfl⟩)
        | fail)
      have A := At.alloc_new (w.alloc (.cells #[.int .i64 (k2 : Int), .string (x), .string (t), .int .i64 s] 44)) 44 #[.int .i64 (k2 : Int), .string (x), .string (t), .int .i64 s]
      refine ⟨rfl, _, ?_, rfl, (Fr.alloc _ _ _).trans (Fr.alloc _ _ _)⟩
      exact results_cell_row (p := 2) (ty := 44) (by rfl) _ _ (w.heap.size + 1) 44 _ (0, 0) _ rfl (by have := A.out; simpa using this) Try.underlying44 rfl (by kernel_rfl)
end Go.Proofs.Ythalpgandfbkdaa
