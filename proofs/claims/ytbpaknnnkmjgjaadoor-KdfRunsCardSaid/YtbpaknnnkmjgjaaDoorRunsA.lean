/- The running keyed sum of the document; what a nil one answers; a text that is too long. -/
import Derived.Test.YtbpaknnnkmjgjaaDoorKdfMac
import Derived.Test.YtbpaknnnkmjgjaaDoorLawKdfCutsW
import Derived.Test.YtbpaknnnkmjgjaaDoorRef3
import Derived.Test.YtbpaknnnkmjgjaaDoorUntil
namespace Go.Proofs.YtbpaknnnkmjgjaaDoor
open Go.RowKit Go.Lib Go.Joins Base
set_option linter.unusedVariables false
set_option linter.unusedSimpArgs false

theorem macWrite_nil (d : ByteArray) (w : World) : Calls Tryd.prog 22 #[.pointer none, .string d] w fun e w' => e = .returned (.int .i64 2) ∧ w = w' := by
  go_enter Tryd.func22, Tryd.ntmps22
  go_wp2_with fail
  go_ret
  exact ⟨rfl, rfl⟩
theorem macSum_nil (w : World) : Calls Tryd.prog 23 #[.pointer none] w fun e w' => e = .returned (.string ⟨#[]⟩) ∧ w = w' := by
  go_enter Tryd.func23, Tryd.ntmps23
  go_wp2_with fail
  go_ret
  exact ⟨rfl, rfl⟩
set_option maxRecDepth 100000 in
set_option maxHeartbeats 1000000 in
theorem took_big (J : List UInt8) (p : Nat) (d : ByteArray) (hJ : J.length ≤ 1099511627776) (hn : 1099511627776 < J.length + d.size) (w : World) (h : Took w p J) :
    Calls Tryd.prog 45 #[.pointer (some ⟨p, 0, none⟩), .string d] w fun e w' => e = .returned (.int .i64 3) ∧ w = w' := by
  obtain ⟨hb, hH, hr, tail, htl, htk, hA⟩ := h
  have c72 := hA.cell 72
  rw [hcells72 _ _ _ hH htl] at c72
  have w1 : IntKind.i64.wrap (1099511627776 - (J.length : Int)) = 1099511627776 - (J.length : Int) := IntWalk.i64_in _ (by omega)
  have l1 : 1099511627776 - (J.length : Int) < d.size := by omega
  go_enter Tryd.func45, Tryd.ntmps45
  go_wp2_with fail
  go_ret
  exact ⟨rfl, rfl⟩
set_option maxRecDepth 100000 in
set_option maxHeartbeats 1000000 in
theorem macWrite_big (K T : List UInt8) (m p : Nat) (d : ByteArray) (hT : T.length ≤ 1099511627712) (hn : 1099511627712 < T.length + d.size) (w : World) (h : MacAt w m p K T) :
    Calls Tryd.prog 22 #[.pointer (some ⟨m, 0, none⟩), .string d] w fun e w' => e = .returned (.int .i64 3) ∧ w = w' := by
  obtain ⟨hne, hA, hT2⟩ := h
  have c2 := hA.cell 2
  have tw := took_big (innerL K ++ T) p d (by rw [List.length_append, innerL_len]; omega) (by rw [List.length_append, innerL_len]; omega) w hT2
  go_enter Tryd.func22, Tryd.ntmps22
  go_wp2_with (first
    | (go_at_call 45; refine tw.mono ?_; rintro e w3 ⟨rfl, rfl⟩)
    | fail)
  go_ret
  exact ⟨rfl, rfl⟩

/-- A running sum of the document in block r. -/
def RMac (w : World) (r : Nat) (k t : ByteArray) : Prop := At w r 71 [.string k, .string t]
theorem rnew_any (k : ByteArray) (w : World) : Calls Tryd.prog 20 #[.string k] w fun e w' => e = .returned (.pointer (some ⟨w.heap.size, 0, none⟩)) ∧ RMac w' w.heap.size k ⟨#[]⟩ ∧ Fr [] w w' := by
  go_enter Tryd.func20, Tryd.ntmps20
  go_wp2_with fail
  go_ret
  exact ⟨rfl, At.alloc_new w 71 #[.string k, .string ⟨#[]⟩], Fr.alloc _ _ _⟩
set_option maxRecDepth 100000 in
set_option maxHeartbeats 1000000 in
theorem rwrite_any (r : Nat) (k t d : ByteArray) (hn : t.size + d.size ≤ 1099511627712) (w : World) (h : RMac w r k t) :
    Calls Tryd.prog 25 #[.pointer (some ⟨r, 0, none⟩), .string d] w fun e w' => e = .returned (.int .i64 0) ∧ RMac w' r k (t ++ d) ∧ Fr [r] w w' := by
  unfold RMac at h ⊢
  have c1 := h.cell 1
  have f1 := h.frozen 1
  have w1 : IntKind.i64.wrap (1099511627712 - (t.size : Int)) = 1099511627712 - (t.size : Int) := IntWalk.i64_in _ (by omega)
  have l1 : ¬ 1099511627712 - (t.size : Int) < d.size := by omega
  have k1 : ¬ 9223372036854775807 < t.size + d.size := by omega
  go_enter Tryd.func25, Tryd.ntmps25
  go_wp2_with fail
  go_ret
  exact ⟨rfl, h.setCell 1 _, Fr.setCell _ _ _ _ (.inl (by simp))⟩
theorem rwrite_big (r : Nat) (k t d : ByteArray) (ht : t.size ≤ 1099511627712) (hn : 1099511627712 < t.size + d.size) (w : World) (h : RMac w r k t) :
    Calls Tryd.prog 25 #[.pointer (some ⟨r, 0, none⟩), .string d] w fun e w' => e = .returned (.int .i64 3) ∧ w = w' := by
  unfold RMac at h
  have c1 := h.cell 1
  have w1 : IntKind.i64.wrap (1099511627712 - (t.size : Int)) = 1099511627712 - (t.size : Int) := IntWalk.i64_in _ (by omega)
  have l1 : 1099511627712 - (t.size : Int) < d.size := by omega
  go_enter Tryd.func25, Tryd.ntmps25
  go_wp2_with fail
  go_ret
  exact ⟨rfl, rfl⟩
set_option maxRecDepth 100000 in
set_option maxHeartbeats 1000000 in
theorem rsum_mac (r : Nat) (k t : ByteArray) (hk : k.size ≤ 140737488355328) (ht : t.size ≤ 140737488355264) (w : World) (hP : Powers w) (hQ : RefRoots w) (h : RMac w r k t) :
    Calls Tryd.prog 26 #[.pointer (some ⟨r, 0, none⟩)] w fun e w' => e = .returned (.string ⟨(hmacL k.data.toList t.data.toList).toArray⟩) ∧ Fr [] w w' := by
  unfold RMac at h
  have cK := rkeyed_any k t hk ht w.drew (hP.keep (Fr.drew _ _)) (hQ.keep (Fr.drew _ _))
  go_enter Tryd.func26, Tryd.ntmps26
  go_wp2_with fail
  refine wp_region_until (fun w' => w'.cell? ⟨r, 0, none⟩ = some (.string k) ∧ w'.cell? ⟨r, 1, none⟩ = some (.string t)) (fun _ => True) 1000 (by rfl) ?_
  have hT : True := trivial
  have s0 : w.drew.cell? ⟨r, 0, none⟩ = some (.string k) ∧ w.drew.cell? ⟨r, 1, none⟩ = some (.string t) := ⟨h.cell 0, h.cell 1⟩
  refine until_s0 0 (v := ?_) rfl (by kernel_rfl) (fun _ _ _ h => h) (Or.inl ⟨by rfl, ?_⟩) (by assumption) (fun h => by first | assumption | exact absurd (h : true = false) (by decide)) ?_
  rotate_left
  · intro w hSw; (try dsimp only at hSw); (try go_simp); (try with_reducible rfl)
  try simp only [Act.put, List.setIfInBounds_toArray, List.set_cons_zero, List.set_cons_succ]
  refine until_s0 1 (v := ?_) rfl (by kernel_rfl) (fun _ _ _ h => h) (Or.inl ⟨by rfl, ?_⟩) (by assumption) (fun h => by first | assumption | exact absurd (h : true = false) (by decide)) ?_
  rotate_left
  · intro w hSw; (try dsimp only at hSw); (try go_simp); (try with_reducible rfl)
  try simp only [Act.put, List.setIfInBounds_toArray, List.set_cons_zero, List.set_cons_succ]
  refine until_s0 2 (v := ?_) rfl (by kernel_rfl) (fun _ _ _ h => h) (Or.inl ⟨by rfl, ?_⟩) (by assumption) (fun h => by first | assumption | exact absurd (h : true = false) (by decide)) ?_
  rotate_left
  · intro w hSw; (try dsimp only at hSw); (try go_simp); (try with_reducible rfl)
  try simp only [Act.put, List.setIfInBounds_toArray, List.set_cons_zero, List.set_cons_succ]
  refine until_s0 3 (v := ?_) rfl (by kernel_rfl) (fun _ _ _ h => h) (Or.inl ⟨by rfl, ?_⟩) (by assumption) (fun h => by first | assumption | exact absurd (h : true = false) (by decide)) ?_
  rotate_left
  · intro w hSw; (try dsimp only at hSw); (try go_simp); (try with_reducible rfl)
  try simp only [Act.put, List.setIfInBounds_toArray, List.set_cons_zero, List.set_cons_succ]
  refine until_s0 4 (v := ?_) rfl (by kernel_rfl) (fun _ _ _ h => h) (Or.inl ⟨by rfl, ?_⟩) (by assumption) (fun h => by first | assumption | exact absurd (h : true = false) (by decide)) ?_
  rotate_left
  · intro w hSw; (try dsimp only at hSw); (try go_simp); (try with_reducible rfl)
  try simp only [Act.put, List.setIfInBounds_toArray, List.set_cons_zero, List.set_cons_succ]
  refine until_s0 5 (v := ?_) rfl (by kernel_rfl) (fun _ _ _ h => h) (Or.inl ⟨by rfl, ?_⟩) (by assumption) (fun h => by first | assumption | exact absurd (h : true = false) (by decide)) ?_
  rotate_left
  · intro w hSw; (try dsimp only at hSw); (try go_simp); (try with_reducible rfl)
  try simp only [Act.put, List.setIfInBounds_toArray, List.set_cons_zero, List.set_cons_succ]
  refine until_s0 6 (v := ?_) rfl (by kernel_rfl) (fun _ _ _ h => h) (Or.inl ⟨by rfl, ?_⟩) (by assumption) (fun h => by first | assumption | exact absurd (h : true = false) (by decide)) ?_
  rotate_left
  · intro w hSw; (try dsimp only at hSw); (try go_simp); (try with_reducible rfl)
  try simp only [Act.put, List.setIfInBounds_toArray, List.set_cons_zero, List.set_cons_succ]
  refine until_s0 7 (v := ?_) rfl (by kernel_rfl) (fun _ _ _ h => h) (Or.inl ⟨by rfl, ?_⟩) (by assumption) (fun h => by first | assumption | exact absurd (h : true = false) (by decide)) ?_
  rotate_left
  · intro w hSw; (try dsimp only at hSw); (try go_simp); (try with_reducible rfl)
  try simp only [Act.put, List.setIfInBounds_toArray, List.set_cons_zero, List.set_cons_succ]
  refine until_sole 8 rfl (by kernel_rfl) (by rfl) ?_
  intro K' hK
  go_simp
  go_at_call 41
  refine cK.mono ?_
  rintro _ w3 ⟨rfl, f3⟩
  go_wp2_with fail
  have f3 : Fr [] w w3 := (Fr.drew _ _).trans f3
  have h3 := f3.keep h (by simp)
  have s3 : w3.cell? ⟨r, 0, none⟩ = some (.string k) ∧ w3.cell? ⟨r, 1, none⟩ = some (.string t) := ⟨h3.cell 0, h3.cell 1⟩
  refine hK _ _ s3 (fun _ => trivial) ?_
  clear hK s0
  refine until_s0 9 (v := ?_) rfl (by kernel_rfl) (fun _ _ _ h => h) (Or.inl ⟨by rfl, ?_⟩) (by assumption) (fun h => by first | assumption | exact absurd (h : true = false) (by decide)) ?_
  rotate_left
  · intro w hSw; (try dsimp only at hSw); (try go_simp); (try with_reducible rfl)
  try simp only [Act.put, List.setIfInBounds_toArray, List.set_cons_zero, List.set_cons_succ]
  refine until_done (by kernel_rfl) ?_ _
  go_wp2_with fail
  go_ret
  exact ⟨rfl, f3⟩
theorem place_any (n : Int) (hn : -9223372036854775808 ≤ n ∧ n ≤ 9223372036854775807) (w : World) : Calls Tryd.prog 24 #[.int .i64 n] w fun e w' => ∃ i : Nat, i < 2 ∧ e = .returned (.int .i64 i) ∧ w = w' := by
  obtain ⟨h1, h2⟩ := tmod_range n 2 (by omega)
  have w1 : IntKind.i64.wrap (n.tmod 2 + 2) = n.tmod 2 + 2 := IntWalk.i64_in _ (by omega)
  have e1 : ∀ t, binOp .rem t (.int .i64 n) (.int .i64 2) = pure (.int .i64 (n.tmod 2)) := by
    intro t
    simp only [binOp, Op.intDiv]
    rw [if_neg (by simp)]
    rw [if_neg (by omega)]
  have e2 : ∀ t, binOp .rem t (.int .i64 (n.tmod 2 + 2)) (.int .i64 2) = pure (.int .i64 (((n.tmod 2 + 2).toNat % 2 : Nat) : Int)) := by
    intro t
    simp only [binOp, Op.intDiv]
    rw [if_neg (by simp)]
    rw [if_neg (by omega)]
    rw [Int.tmod_eq_emod_of_nonneg (by omega)]
    congr 2; omega
  obtain ⟨k, hk⟩ : ∃ k, k = (n.tmod 2 + 2).toNat % 2 := ⟨_, rfl⟩
  rw [← hk] at e2
  have hk2 : k < 2 := by omega
  generalize n.tmod 2 = m at w1 e1 e2 h1 h2 hk
  clear hk
  go_enter Tryd.func24, Tryd.ntmps24
  go_wp2_with fail
  go_ret
  exact ⟨k, hk2, rfl, rfl⟩
end Go.Proofs.YtbpaknnnkmjgjaaDoor
