/- The program's layer 6: Seal and Open. -/
import Derived.Test.YtichgiecohhmgaaDoorAeadC
import Derived.Test.YtichgiecohhmgaaDoorQuiet
namespace Go.Proofs.YtichgiecohhmgaaDoor
open Go.RowKit Go.Lib Go.Joins Base
set_option linter.unusedVariables false
set_option linter.unusedSimpArgs false

/-- A session that begins so. -/
def Begins (k n K N : ByteArray) : Prop := ∀ w, Rounds w → Calls Tryd.prog 25 #[.string k, .string n] w fun e w' => e = .returned (.tuple #[.agg #[.string K, .string N], .int .i64 0]) ∧ Fr [] w w'
def BeginErr (k n : ByteArray) (c : Int) : Prop := ∀ w, Rounds w → Calls Tryd.prog 25 #[.string k, .string n] w fun e w' => e = .returned (.tuple #[.agg #[.string ⟨#[]⟩, .string ⟨#[]⟩], .int .i64 c]) ∧ Fr [] w w'
def cipherOf (K N p : List UInt8) : List UInt8 := xorAll (ksAt K N 1) p
theorem cipherOf_len (K N p : List UInt8) : (cipherOf K N p).length = p.length := xorAll_len _ _
theorem cipher_back (K N p : List UInt8) : cipherOf K N (cipherOf K N p) = p := xorAll_back _ _
def sealOf (K N a p : List UInt8) : List UInt8 := cipherOf K N p ++ tagOf K N a (cipherOf K N p)
theorem sealOf_len (K N a p : List UInt8) : (sealOf K N a p).length = p.length + 16 := by rw [sealOf, List.length_append, cipherOf_len, tagOf_len]
theorem xor1_any (K N d : ByteArray) (hK : K.size = 32) (hN : N.size = 12) (hd : d.size ≤ 1048576) (w : World) (ht : Rounds w) :
    Calls Tryd.prog 14 #[.string K, .int .i64 1, .string N, .string d] w fun e w' => e = .returned (.tuple #[.string ⟨(cipherOf K.data.toList N.data.toList d.data.toList).toArray⟩, .int .i64 0]) ∧ Fr [] w w' := by
  have := xor_ok K N d hK hN (by omega) 1 (by show (d.size + 63) / 64 + 1 ≤ 4294967296; omega) w ht
  rw [show wd 1 = 1 from rfl] at this
  exact this
theorem size_of (l : List UInt8) : (⟨l.toArray⟩ : ByteArray).size = l.length := by show l.toArray.size = _; simp
theorem app_of (a b : List UInt8) : (⟨a.toArray⟩ : ByteArray) ++ ⟨b.toArray⟩ = ⟨(a ++ b).toArray⟩ := by
  apply ByteArray.ext
  rw [ByteArray.data_append]
  simp
set_option maxRecDepth 100000 in
set_option maxHeartbeats 1000000 in
theorem seal_err (k n a p : ByteArray) (c : Int) (hc : ¬ c = 0) (hB : BeginErr k n c) (w : World) (ht : Rounds w) :
    Calls Tryd.prog 10 #[.string k, .string n, .string a, .string p] w fun e w' => e = .returned (.tuple #[.string ⟨#[]⟩, .int .i64 c]) ∧ Fr [] w w' := by
  have c1 := hB w ht
  go_enter Tryd.func10, Tryd.ntmps10
  go_wp2_with (first
    | (go_at_call 25; refine c1.mono ?_; clear c1; rintro e w1 ⟨rfl, f1⟩)
    | fail)
  go_ret2
  exact ⟨rfl, f1.trans (Fr.alloc _ _ _)⟩
set_option maxRecDepth 100000 in
set_option maxHeartbeats 1000000 in
theorem seal_big (k n a p K N : ByteArray) (hB : Begins k n K N) (h : 1048576 < a.size ∨ 1048576 < p.size) (w : World) (ht : Rounds w) :
    Calls Tryd.prog 10 #[.string k, .string n, .string a, .string p] w fun e w' => e = .returned (.tuple #[.string ⟨#[]⟩, .int .i64 3]) ∧ Fr [] w w' := by
  have c1 := hB w ht
  by_cases h1 : 1048576 < a.size
  · have l1 : (1048576 : Int) < a.size := by omega
    clear h h1
    go_enter Tryd.func10, Tryd.ntmps10
    go_wp2_with (first
      | (go_at_call 25; refine c1.mono ?_; clear c1; rintro e w1 ⟨rfl, f1⟩)
      | fail)
    go_ret2
    exact ⟨rfl, f1.trans (Fr.alloc _ _ _)⟩
  · have l1 : ¬ (1048576 : Int) < a.size := by omega
    have l2 : (1048576 : Int) < p.size := by omega
    clear h h1
    go_enter Tryd.func10, Tryd.ntmps10
    go_wp2_with (first
      | (go_at_call 25; refine c1.mono ?_; clear c1; rintro e w1 ⟨rfl, f1⟩)
      | fail)
    go_ret2
    exact ⟨rfl, f1.trans (Fr.alloc _ _ _)⟩
set_option maxRecDepth 100000 in
set_option maxHeartbeats 2000000 in
theorem seal_any (k n a p K N : ByteArray) (hB : Begins k n K N) (hK : K.size = 32) (hN : N.size = 12) (ha : a.size ≤ 1048576) (hp : p.size ≤ 1048576) (w : World) (ht : Rounds w) :
    Calls Tryd.prog 10 #[.string k, .string n, .string a, .string p] w fun e w' => e = .returned (.tuple #[.string ⟨(sealOf K.data.toList N.data.toList a.data.toList p.data.toList).toArray⟩, .int .i64 0]) ∧ Fr [] w w' := by
  have c1 := hB w ht
  have c2 := fun w h => xor1_any K N p hK hN (by omega) w h
  obtain ⟨C, hC⟩ : ∃ C : ByteArray, C = ⟨(cipherOf K.data.toList N.data.toList p.data.toList).toArray⟩ := ⟨_, rfl⟩
  rw [← hC] at c2
  have hCs : C.size = p.size := by rw [hC, size_of, cipherOf_len]; simp
  have hCd : C.data.toList = cipherOf K.data.toList N.data.toList p.data.toList := by rw [hC]
  have c3 := fun w h => stag_any K N a C hK hN (by omega) (by omega) w h
  obtain ⟨T, hT⟩ : ∃ T : ByteArray, T = ⟨(tagOf K.data.toList N.data.toList a.data.toList C.data.toList).toArray⟩ := ⟨_, rfl⟩
  rw [← hT] at c3
  have hTs : T.size = 16 := by rw [hT, size_of, tagOf_len]
  have hfin : C ++ T = ⟨(sealOf K.data.toList N.data.toList a.data.toList p.data.toList).toArray⟩ := by
    rw [hT, hCd, hC, app_of, sealOf]
  have k1 : ¬ 9223372036854775807 < C.size + T.size := by omega
  have l1 : ¬ (1048576 : Int) < a.size := by omega
  have l2 : ¬ (1048576 : Int) < p.size := by omega
  have A0 := fun w1 => At.alloc_new w1 43 #[.string K, .string N]
  have q0 := fun w1 => (A0 w1).cell 0
  have q1 := fun w1 => (A0 w1).cell 1
  rw [← hfin]
  clear hfin hC hT hCd hCs hTs
  go_enter Tryd.func10, Tryd.ntmps10
  go_wp2_with (first
    | (go_at_call 25; refine c1.mono ?_; clear c1; rintro e w1 ⟨rfl, f1⟩; have F1 := f1.trans (Fr.alloc [] w1 (.cells #[.string K, .string N] 43)))
    | (go_at_call 14; refine (c2 _ (ht.keep F1 (by simp))).mono ?_; clear c2; rintro e w2 ⟨rfl, f2⟩; have F2 := F1.trans f2; have A2 := f2.keep (A0 w1) (by simp); have d0 := A2.cell 0; have d1 := A2.cell 1)
    | (go_at_call 26; refine (c3 _ (ht.keep F2 (by simp))).mono ?_; clear c3; rintro e w3 ⟨rfl, f3⟩)
    | fail)
  go_ret2
  exact ⟨rfl, F2.trans f3⟩
set_option maxRecDepth 100000 in
set_option maxHeartbeats 1000000 in
theorem open_err (k n a p : ByteArray) (c : Int) (hc : ¬ c = 0) (hB : BeginErr k n c) (w : World) (ht : Rounds w) :
    Calls Tryd.prog 19 #[.string k, .string n, .string a, .string p] w fun e w' => e = .returned (.tuple #[.string ⟨#[]⟩, .int .i64 c]) ∧ Fr [] w w' := by
  have c1 := hB w ht
  go_enter Tryd.func19, Tryd.ntmps19
  go_wp2_with (first
    | (go_at_call 25; refine c1.mono ?_; clear c1; rintro e w1 ⟨rfl, f1⟩)
    | fail)
  go_ret2
  exact ⟨rfl, f1.trans (Fr.alloc _ _ _)⟩
set_option maxRecDepth 100000 in
set_option maxHeartbeats 1000000 in
theorem open_big (k n a x K N : ByteArray) (hB : Begins k n K N) (hx : x.size ≤ 4611686018427387904) (h : 1048576 < a.size ∨ 1048592 < x.size) (w : World) (ht : Rounds w) :
    Calls Tryd.prog 19 #[.string k, .string n, .string a, .string x] w fun e w' => e = .returned (.tuple #[.string ⟨#[]⟩, .int .i64 3]) ∧ Fr [] w w' := by
  have c1 := hB w ht
  have w1 : IntKind.i64.wrap ((x.size : Int) - 16) = (x.size : Int) - 16 := IntWalk.i64_in _ (by omega)
  by_cases h1 : 1048576 < a.size
  · have l1 : (1048576 : Int) < a.size := by omega
    clear h h1
    go_enter Tryd.func19, Tryd.ntmps19
    go_wp2_with (first
      | (go_at_call 25; refine c1.mono ?_; clear c1; rintro e w1 ⟨rfl, f1⟩)
      | fail)
    go_ret2
    exact ⟨rfl, f1.trans (Fr.alloc _ _ _)⟩
  · have l1 : ¬ (1048576 : Int) < a.size := by omega
    have l2 : (1048576 : Int) < (x.size : Int) - 16 := by omega
    clear h h1
    go_enter Tryd.func19, Tryd.ntmps19
    go_wp2_with (first
      | (go_at_call 25; refine c1.mono ?_; clear c1; rintro e w1 ⟨rfl, f1⟩)
      | fail)
    go_ret2
    exact ⟨rfl, f1.trans (Fr.alloc _ _ _)⟩
set_option maxRecDepth 100000 in
set_option maxHeartbeats 1000000 in
theorem open_short (k n a x K N : ByteArray) (hB : Begins k n K N) (ha : a.size ≤ 1048576) (h : x.size < 16) (w : World) (ht : Rounds w) :
    Calls Tryd.prog 19 #[.string k, .string n, .string a, .string x] w fun e w' => e = .returned (.tuple #[.string ⟨#[]⟩, .int .i64 60]) ∧ Fr [] w w' := by
  have c1 := hB w ht
  have w1 : IntKind.i64.wrap ((x.size : Int) - 16) = (x.size : Int) - 16 := IntWalk.i64_in _ (by omega)
  have l1 : ¬ (1048576 : Int) < a.size := by omega
  have l2 : ¬ (1048576 : Int) < (x.size : Int) - 16 := by omega
  have l3 : (x.size : Int) - 16 < 0 := by omega
  clear h
  go_enter Tryd.func19, Tryd.ntmps19
  go_wp2_with (first
    | (go_at_call 25; refine c1.mono ?_; clear c1; rintro e w1 ⟨rfl, f1⟩)
    | fail)
  go_ret2
  exact ⟨rfl, f1.trans (Fr.alloc _ _ _)⟩
/-- What Open answers of a cipher text and its tag. -/
def openE (K N a x : ByteArray) (w : World) (e : Ending) (w' : World) : Prop :=
  (x.extract (x.size - 16) x.size = ⟨(tagOf K.data.toList N.data.toList a.data.toList (x.extract 0 (x.size - 16)).data.toList).toArray⟩ ∧ e = .returned (.tuple #[.string ⟨(cipherOf K.data.toList N.data.toList (x.extract 0 (x.size - 16)).data.toList).toArray⟩, .int .i64 0]) ∧ Fr [] w w') ∨
  (x.extract (x.size - 16) x.size ≠ ⟨(tagOf K.data.toList N.data.toList a.data.toList (x.extract 0 (x.size - 16)).data.toList).toArray⟩ ∧ e = .returned (.tuple #[.string ⟨#[]⟩, .int .i64 61]) ∧ Fr [] w w')
set_option maxRecDepth 100000 in
set_option maxHeartbeats 2000000 in
theorem open_any (k n a x K N : ByteArray) (hB : Begins k n K N) (hK : K.size = 32) (hN : N.size = 12) (ha : a.size ≤ 1048576) (h1 : 16 ≤ x.size) (h2 : x.size ≤ 1048592) (w : World) (ht : Rounds w) :
    Calls Tryd.prog 19 #[.string k, .string n, .string a, .string x] w (openE K N a x w) := by
  have c1 := hB w ht
  obtain ⟨m, hm⟩ : ∃ m, m = x.size - 16 := ⟨_, rfl⟩
  obtain ⟨C, hC⟩ : ∃ C, C = x.extract 0 m := ⟨_, rfl⟩
  obtain ⟨U, hU⟩ : ∃ U, U = x.extract m x.size := ⟨_, rfl⟩
  have hCs : C.size = m := by rw [hC, ByteArray.size_extract]; omega
  have hUs : U.size = 16 := by rw [hU, ByteArray.size_extract]; omega
  have c2 := fun w h => xor1_any K N C hK hN (by omega) w h
  have c3 := fun w h => stag_any K N a C hK hN (by omega) (by omega) w h
  unfold openE
  rw [← hm, ← hC, ← hU]
  obtain ⟨P, hP⟩ : ∃ P : ByteArray, P = ⟨(cipherOf K.data.toList N.data.toList C.data.toList).toArray⟩ := ⟨_, rfl⟩
  obtain ⟨T, hT⟩ : ∃ T : ByteArray, T = ⟨(tagOf K.data.toList N.data.toList a.data.toList C.data.toList).toArray⟩ := ⟨_, rfl⟩
  rw [← hP] at c2 ⊢
  rw [← hT] at c3 ⊢
  have hTs : T.size = 16 := by rw [hT, size_of, tagOf_len]
  have c4 := fun w => pequal_any T U (by omega) w
  have w1 : IntKind.i64.wrap ((x.size : Int) - 16) = (m : Int) := by rw [show (x.size : Int) - 16 = (m : Int) by omega]; exact IntWalk.i64_in _ (by omega)
  have l1 : ¬ (1048576 : Int) < a.size := by omega
  have l2 : ¬ (1048576 : Int) < (m : Int) := by omega
  have l3 : ¬ (m : Int) < 0 := by omega
  have l4 : (m : Int) ≤ x.size := by omega
  have eC := hC.symm
  have eU := hU.symm
  have A0 := fun w1 => At.alloc_new w1 43 #[.string K, .string N]
  have w1' : wrap64 ((x.size : Int) - 16) = (m : Int) := by rw [show (x.size : Int) - 16 = (m : Int) by omega]; exact IntWalk.wrap64_in _ (by omega)
  clear hm hC hU hP hT hCs hUs hTs h1 h2 ha
  go_enter Tryd.func19, Tryd.ntmps19
  go_upto_region 9 with (first
    | (go_at_call 25; refine c1.mono ?_; clear c1; rintro e w1 ⟨rfl, f1⟩; have F1 := f1.trans (Fr.alloc [] w1 (.cells #[.string K, .string N] 43)))
    | fail)
  have A1 := A0 w1
  generalize w1.alloc (.cells #[.string K, .string N] 43) = W at A1 F1 ⊢
  obtain ⟨t, ht0⟩ : ∃ t, t = w1.heap.size := ⟨_, rfl⟩
  rw [← ht0] at A1 ⊢
  clear ht0 f1
  obtain ⟨G, hG⟩ : ∃ G : World → Prop, G = fun w' => Fr [] W w' := ⟨_, rfl⟩
  have gW : ∀ w', G w' ↔ Fr [] W w' := fun w' => by rw [hG]
  clear hG
  have q0 : ∀ y : Gw G, y.w.cell? ⟨t, 0, none⟩ = some (.string K) := fun y => (((gW _).1 y.ok).keep A1 (by simp)).cell 0
  have q1 : ∀ y : Gw G, y.w.cell? ⟨t, 1, none⟩ = some (.string N) := fun y => (((gW _).1 y.ok).keep A1 (by simp)).cell 1
  have c3' := fun y : Gw G => c3 y.w (ht.keep (F1.trans ((gW _).1 y.ok)) (by simp))
  have g1 : ∀ (y : Gw G) w', Fr [] y.w w' → G w' := fun y w' f => (gW _).2 (((gW _).1 y.ok).trans f)
  have gz : G W.drew := (gW _).2 (Fr.drew _ _)
  have ne : Nonempty (Gw G) := ⟨⟨_, gz⟩⟩
  clear c3 A0
  refine wp_region_gw G (by kernel_rfl) (by kernel_rfl) gz ?_
  repeat (go_big_quiet_step (first
    | (go_at_call 26; exact gw_call (c3' _) (g1 _))))
  refine wpQuiet_nil ?_
  rintro _ ⟨y, rfl⟩
  have F2 := F1.trans ((gW _).1 y.ok)
  have A2 := ((gW _).1 y.ok).keep A1 (by simp)
  generalize y.w = W2 at F2 A2 ⊢
  clear q0 q1 c3' g1 gz ne gW A1 F1
  by_cases he : T = U
  · have he' : U = T := he.symm
    have lb : decide (T = U) = true := decide_eq_true he
    rw [lb] at c4
    have HE := Lib.hid he'
    clear he he' lb
    go_upto_region 14 with (first
      | (go_at_call 38; refine (c4 _).mono ?_; clear c4; rintro e W3 ⟨rfl, f3⟩)
      | fail)
    have F3 := F2.trans f3
    have A3 := f3.keep A2 (by simp)
    clear f3 F2 A2
    obtain ⟨G2, hG2⟩ : ∃ G : World → Prop, G = fun w' => Fr [] W3 w' := ⟨_, rfl⟩
    have gW2 : ∀ w', G2 w' ↔ Fr [] W3 w' := fun w' => by rw [hG2]
    clear hG2
    have p0 : ∀ y : Gw G2, y.w.cell? ⟨t, 0, none⟩ = some (.string K) := fun y => (((gW2 _).1 y.ok).keep A3 (by simp)).cell 0
    have p1 : ∀ y : Gw G2, y.w.cell? ⟨t, 1, none⟩ = some (.string N) := fun y => (((gW2 _).1 y.ok).keep A3 (by simp)).cell 1
    have c2' := fun y : Gw G2 => c2 y.w (ht.keep (F3.trans ((gW2 _).1 y.ok)) (by simp))
    have g2 : ∀ (y : Gw G2) w', Fr [] y.w w' → G2 w' := fun y w' f => (gW2 _).2 (((gW2 _).1 y.ok).trans f)
    have gz2 : G2 W3.drew := (gW2 _).2 (Fr.drew _ _)
    have ne2 : Nonempty (Gw G2) := ⟨⟨_, gz2⟩⟩
    clear c2
    refine wp_region_gw G2 (by kernel_rfl) (by kernel_rfl) gz2 ?_
    repeat (go_big_quiet_step (first
      | (go_at_call 14; exact gw_call (c2' _) (g2 _))))
    refine wpQuiet_nil ?_
    rintro _ ⟨y, rfl⟩
    have fy := (gW2 _).1 y.ok
    go_wp2_with fail
    go_ret2
    exact .inl ⟨HE.out, rfl, F3.trans fy⟩
  · have he' : U ≠ T := fun h => he h.symm
    have lb : decide (T = U) = false := decide_eq_false he
    rw [lb] at c4
    have HE := Lib.hid he'
    clear he he' lb
    go_wp2_with (first
      | (go_at_call 38; refine (c4 _).mono ?_; clear c4; rintro e W3 ⟨rfl, f3⟩)
      | fail)
    go_ret2
    exact .inr ⟨HE.out, rfl, F2.trans f3⟩
end Go.Proofs.YtichgiecohhmgaaDoor
