/- The program's layer 6: a session begun. -/
import Derived.Test.YtichgiecohhmgaaDoorAeadB
import Derived.Test.YtichgiecohhmgaaDoorUntil
namespace Go.Proofs.YtichgiecohhmgaaDoor
open Go.RowKit Go.Lib Go.Joins Base
set_option linter.unusedVariables false
set_option linter.unusedSimpArgs false

theorem results_cs {P : Program} {fn : Func} {p r : Tmp} {t1 : TypeId} (h : fn.results = #[.cell p t1, .tmp r]) (tmps : Array Value) (w : World) (g1 : Nat) (T1 : TypeId) (c1 : Array Value) (f1 : Nat × Nat) (d1 : TypeDesc)
    (hp : tmps.getD p undef = .pointer (some ⟨g1, 0, none⟩)) (hg1 : w.heap[g1]? = some (.cells c1 T1 f1)) (hu1 : P.underlying t1 = some d1) (hd1 : (match d1 with | .struct _ | .array _ _ => true | _ => false) = true) (hi1 : (P.info? t1).map (·.size) = some c1.size) :
    (results fn tmps).run P w = .ok (.tuple #[.agg c1, tmps.getD r undef]) w := by
  have hp' : tmps[p]?.getD undef = .pointer (some ⟨g1, 0, none⟩) := by simpa using hp
  simp [results, h, hp', asAddr, run_loadVar_row w g1 T1 t1 c1 f1 d1 hg1 hu1 hd1 hi1]
theorem ses_one (a b : ByteArray) : (#[Value.string a, .string b] : Array Value).all (·.oneCell') = true := all_oneCell_toArray (cs := [.string a, .string b]) (by intro v hv; simp only [List.mem_cons, List.not_mem_nil, or_false] at hv; rcases hv with rfl | rfl <;> rfl)
/-- The key and the nonce that a nonce of 24 bytes comes to. -/
def sKey (k n : ByteArray) : ByteArray := ⟨((hch k.data.toList (n.extract 0 16).data.toList).flatMap bytes4).toArray⟩
def sNonce (n : ByteArray) : ByteArray := ⟨(zerosB 4).toArray⟩ ++ n.extract 16 n.size
set_option maxRecDepth 100000 in
theorem begin_key (k n : ByteArray) (hk : k.size ≠ 32) (w : World) :
    Calls Tryd.prog 25 #[.string k, .string n] w fun e w' => e = .returned (.tuple #[.agg #[.string ⟨#[]⟩, .string ⟨#[]⟩], .int .i64 40]) ∧ Fr [] w w' := by
  have l1 : ¬ (k.size : Int) = 32 := by omega
  go_enter Tryd.func25, Tryd.ntmps25
  go_wp2_with fail
  refine ⟨rfl, _, ?_, rfl, Fr.alloc _ _ _⟩
  exact results_cs (p := 4) (r := 5) (t1 := 43) (by rfl) _ _ w.heap.size 43 _ (0, 0) _ rfl (At.alloc_new w 43 #[.string ⟨#[]⟩, .string ⟨#[]⟩]).out Tryd.underlying43 rfl (by kernel_rfl)
set_option maxRecDepth 100000 in
theorem begin_short (k n : ByteArray) (hk : k.size = 32) (hn : n.size = 12) (w : World) :
    Calls Tryd.prog 25 #[.string k, .string n] w fun e w' => e = .returned (.tuple #[.agg #[.string k, .string n], .int .i64 0]) ∧ Fr [] w w' := by
  have l1 : (k.size : Int) = 32 := by omega
  have l2 : (n.size : Int) = 12 := by omega
  go_enter Tryd.func25, Tryd.ntmps25
  go_wp2_with fail
  refine ⟨rfl, _, ?_, rfl, Fr.alloc _ _ _⟩
  exact results_cs (p := 4) (r := 5) (t1 := 43) (by rfl) _ _ w.heap.size 43 _ (0, 0) _ rfl (At.alloc_new w 43 #[.string k, .string n]).out Tryd.underlying43 rfl (by kernel_rfl)
set_option maxRecDepth 100000 in
theorem begin_nonce (k n : ByteArray) (hk : k.size = 32) (h1 : n.size ≠ 12) (h2 : n.size ≠ 24) (w : World) :
    Calls Tryd.prog 25 #[.string k, .string n] w fun e w' => e = .returned (.tuple #[.agg #[.string ⟨#[]⟩, .string ⟨#[]⟩], .int .i64 41]) ∧ Fr [] w w' := by
  have l1 : (k.size : Int) = 32 := by omega
  have l2 : ¬ (n.size : Int) = 12 := by omega
  have l3 : ¬ (n.size : Int) = 24 := by omega
  go_enter Tryd.func25, Tryd.ntmps25
  go_wp2_with fail
  refine ⟨rfl, _, ?_, rfl, Fr.alloc _ _ _⟩
  exact results_cs (p := 4) (r := 5) (t1 := 43) (by rfl) _ _ w.heap.size 43 _ (0, 0) _ rfl (At.alloc_new w 43 #[.string ⟨#[]⟩, .string ⟨#[]⟩]).out Tryd.underlying43 rfl (by kernel_rfl)
set_option maxRecDepth 100000 in
set_option maxHeartbeats 1000000 in
theorem begin_long (k n : ByteArray) (hk : k.size = 32) (hn : n.size = 24) (w : World) (ht : Rounds w) :
    Calls Tryd.prog 25 #[.string k, .string n] w fun e w' => e = .returned (.tuple #[.agg #[.string (sKey k n), .string (sNonce n)], .int .i64 0]) ∧ Fr [] w w' := by
  have l1 : (k.size : Int) = 32 := by omega
  have l2 : ¬ (n.size : Int) = 12 := by omega
  have l3 : (n.size : Int) = 24 := by omega
  have l4 : (16 : Int) ≤ n.size := by omega
  have cH := fun w h => hash_ok k (n.extract 0 16) hk (by rw [ByteArray.size_extract]; omega) w h
  have cZ := fun w => zeros_any 4 (by omega) w
  have e4 : ((4 : Nat) : Int) = 4 := rfl
  rw [e4] at cZ
  have hK : (⟨((hch k.data.toList (n.extract 0 16).data.toList).flatMap bytes4).toArray⟩ : ByteArray) = sKey k n := by rw [sKey]
  rw [hK] at cH
  have hN : (⟨(zerosB 4).toArray⟩ : ByteArray) ++ n.extract 16 24 = sNonce n := by rw [sNonce, hn]
  have hzs : (⟨(zerosB 4).toArray⟩ : ByteArray).size = 4 := rfl
  generalize (⟨(zerosB 4).toArray⟩ : ByteArray) = Z at cZ hN hzs
  generalize sKey k n = K at cH ⊢
  generalize sNonce n = N at hN ⊢
  have k1 : ¬ 9223372036854775807 < Z.size + (n.extract 16 24).size := by rw [ByteArray.size_extract]; omega
  have k2 : ¬ 9223372036854775807 < Z.size + 8 := by omega
  have A0 := At.alloc_new w 43 #[.string ⟨#[]⟩, .string ⟨#[]⟩]
  have F0 := Fr.alloc [] w (.cells #[.string ⟨#[]⟩, .string ⟨#[]⟩] 43)
  clear hK e4 hzs
  go_enter Tryd.func25, Tryd.ntmps25
  go_wp2_with (first
    | (go_at_call 22; refine (cH _ (ht.keep F0 (by simp))).mono ?_; clear cH; rintro e w1 ⟨rfl, f1⟩)
    | fail)
  refine wp_region_until (fun _ => True) (fun _ => True) 1000 (by rfl) ?_
  have hT : True := trivial
  refine until_s0 0 (v := ?_) rfl (by kernel_rfl) (fun _ _ _ h => h) (Or.inl ⟨by rfl, ?_⟩) (by assumption) (fun h => by first | assumption | exact absurd (h : true = false) (by decide)) ?_
  rotate_left
  · intro w hSw; (try dsimp only at hSw); (try go_simp); (try with_reducible rfl)
  try simp only [Act.put, List.setIfInBounds_toArray, List.set_cons_zero, List.set_cons_succ]
  refine until_s0 2 (v := ?_) rfl (by kernel_rfl) (fun _ _ _ h => h) (Or.inl ⟨by rfl, ?_⟩) (by assumption) (fun h => by first | assumption | exact absurd (h : true = false) (by decide)) ?_
  rotate_left
  · intro w hSw; (try dsimp only at hSw); (try go_simp); (try with_reducible rfl)
  try simp only [Act.put, List.setIfInBounds_toArray, List.set_cons_zero, List.set_cons_succ]
  refine until_s0 3 (v := ?_) rfl (by kernel_rfl) (fun _ _ _ h => h) (Or.inl ⟨by rfl, ?_⟩) (by assumption) (fun h => by first | assumption | exact absurd (h : true = false) (by decide)) ?_
  rotate_left
  · intro w hSw; (try dsimp only at hSw); (try go_simp); (try with_reducible rfl)
  try simp only [Act.put, List.setIfInBounds_toArray, List.set_cons_zero, List.set_cons_succ]
  refine until_s0 6 (v := ?_) rfl (by kernel_rfl) (fun _ _ _ h => h) (Or.inl ⟨by rfl, ?_⟩) (by assumption) (fun h => by first | assumption | exact absurd (h : true = false) (by decide)) ?_
  rotate_left
  · intro w hSw; (try dsimp only at hSw); (try go_simp); (try with_reducible rfl)
  try simp only [Act.put, List.setIfInBounds_toArray, List.set_cons_zero, List.set_cons_succ]
  refine until_sole 1 rfl (by kernel_rfl) (by rfl) ?_
  intro K' hK
  go_simp
  go_at_call 41
  refine (cZ _).mono ?_
  rintro _ w2 ⟨rfl, f2⟩
  go_wp2_with fail
  refine hK _ _ trivial (fun _ => trivial) ?_
  clear hK
  refine until_s0 4 (v := ?_) rfl (by kernel_rfl) (fun _ _ _ h => h) (Or.inl ⟨by rfl, ?_⟩) (by assumption) (fun h => by first | assumption | exact absurd (h : true = false) (by decide)) ?_
  rotate_left
  · intro w hSw; (try dsimp only at hSw); (try go_simp); (try with_reducible rfl)
  try simp only [Act.put, List.setIfInBounds_toArray, List.set_cons_zero, List.set_cons_succ]
  refine until_s0 5 (v := ?_) rfl (by kernel_rfl) (fun _ _ _ h => h) (Or.inl ⟨by rfl, ?_⟩) (by assumption) (fun h => by first | assumption | exact absurd (h : true = false) (by decide)) ?_
  rotate_left
  · intro w hSw; (try dsimp only at hSw); (try go_simp); (try with_reducible rfl)
  try simp only [Act.put, List.setIfInBounds_toArray, List.set_cons_zero, List.set_cons_succ]
  have A2 := f2.keep (f1.keep A0 (by simp)).drew (by simp)
  refine until_sole 7 rfl (by kernel_rfl) (by rfl) ?_
  intro K' hK
  refine wp_store_row _ _ _ rfl w.heap.size #[.string K, .string N] rfl rfl _ _ A2.out (by kernel_rfl) rfl (ses_one K N) ?_
  refine hK _ _ trivial (fun _ => trivial) ?_
  clear hK
  refine until_s0 8 (v := ?_) rfl (by kernel_rfl) (fun _ _ _ h => h) (Or.inl ⟨by rfl, ?_⟩) (by assumption) (fun h => by first | assumption | exact absurd (h : true = false) (by decide)) ?_
  rotate_left
  · intro w hSw; (try dsimp only at hSw); (try go_simp); (try with_reducible rfl)
  try simp only [Act.put, List.setIfInBounds_toArray, List.set_cons_zero, List.set_cons_succ]
  refine until_done (by kernel_rfl) ?_ _
  go_wp2_with fail
  have A3 := A2.setRow #[.string K, .string N]
  refine ⟨rfl, _, ?_, rfl, ((F0.trans f1).trans ((Fr.drew _ _).trans f2)).new (S := [w.heap.size]) (Fr.setRow [w.heap.size] _ _ _ (.inl (by simp))) (by simp)⟩
  refine results_cs (p := 4) (r := 5) (t1 := 43) (by rfl) _ _ w.heap.size 43 _ (0, 0) _ ?_ A3.out Tryd.underlying43 rfl (by kernel_rfl)
  first | rfl | simp only [Act.put, List.setIfInBounds_toArray, List.set_cons_zero, List.set_cons_succ, Array.getD_eq_getD_getElem?, List.getElem?_toArray, List.getElem?_cons_succ, List.getElem?_cons_zero, Option.getD_some]
end Go.Proofs.YtichgiecohhmgaaDoor
