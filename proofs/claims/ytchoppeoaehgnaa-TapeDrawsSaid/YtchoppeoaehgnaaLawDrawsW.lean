/- The walk of TapeDraws: it returns true for every two texts and every script. -/
import Derived.Test.YtchoppeoaehgnaaLawOrderW
namespace Go.Proofs.Ytchoppeoaehgnaa
open Go.RowKit Go.Lib Base

/-- The program's tape and the document's: both there, with the same left and drawn, or both not there. -/
def blocks : Option (Nat × Nat × Nat) → List Nat
  | none => []
  | some (b, s, r) => [b, s, r]
def tv : Option (Nat × Nat × Nat) → Value
  | none => .pointer none
  | some (b, _, _) => .pointer (some ⟨b, 0, none⟩)
def rv : Option (Nat × Nat × Nat) → Value
  | none => .pointer none
  | some (_, _, r) => .pointer (some ⟨r, 0, none⟩)
def Pair (w : World) : Option (Nat × Nat × Nat) → Prop
  | none => True
  | some (b, s, r) => r ≠ b ∧ r ≠ s ∧ ∃ rest dr, IsTape w b s rest dr ∧ IsRef w r rest dr
theorem IsRef.keep {S : List Nat} {w w' : World} {r : Nat} {rest : List UInt8} {dr : Nat} (h : IsRef w r rest dr) (hf : Fr S w w') (hb : r ∉ S) : IsRef w' r rest dr := ⟨hf.keep h.1 hb, h.2⟩
@[simp] theorem isRef_drewN (w : World) (n r : Nat) (rest : List UInt8) (dr : Nat) : IsRef (w.drewN n) r rest dr ↔ IsRef w r rest dr := Iff.rfl
theorem Pair.keep {S : List Nat} {w w' : World} {o : Option (Nat × Nat × Nat)} (h : Pair w o) (hf : Fr S w w') (hS : ∀ x, x ∈ blocks o → x ∉ S) : Pair w' o := by
  cases o with
  | none => trivial
  | some q =>
    obtain ⟨b, s, r⟩ := q
    obtain ⟨h1, h2, rest, dr, h3, h4⟩ := h
    exact ⟨h1, h2, rest, dr, h3.keep hf (hS _ (by simp [blocks])) (hS _ (by simp [blocks])), h4.keep hf (hS _ (by simp [blocks]))⟩

def StepPost (o : Option (Nat × Nat × Nat)) (w : World) (e : Ending) (w' : World) : Prop :=
  e = .returned (.bool true) ∧ Fr (blocks o) w w' ∧ Pair w' o

set_option maxHeartbeats 4000000 in
set_option maxRecDepth 100000 in
theorem step_nil (K A N : Int) (w : World) :
    Calls Try.prog 13 #[.pointer none, .pointer none, .agg #[.int .i64 K, .int .i64 A, .int .i64 N]] w (StepPost none w) := by
  by_cases h1 : K = 1
  · subst h1
    go_enter Try.func13, Try.ntmps13
    go_wp2_with (first | (go_at_call 9; refine (num_any _ _).mono ?_; rintro e w' ⟨rfl, rfl⟩) | (go_at_call 16; refine (draw_nil _ _).mono ?_; rintro e w' ⟨rfl, rfl⟩) | (go_at_call 17; refine (refdraw_nil _ _).mono ?_; rintro e w' ⟨rfl, rfl⟩))
    go_ret
    exact ⟨rfl, Fr.alloc _ _ _, trivial⟩
  by_cases h2 : K = 2
  · subst h2
    go_enter Try.func13, Try.ntmps13
    go_wp2_with (first | (go_at_call 10; refine (left_nil _).mono ?_; rintro e w' ⟨rfl, rfl⟩) | (go_at_call 14; refine (refleft_nil _).mono ?_; rintro e w' ⟨rfl, rfl⟩))
    go_ret
    exact ⟨rfl, Fr.alloc _ _ _, trivial⟩
  by_cases h3 : K = 3
  · subst h3
    go_enter Try.func13, Try.ntmps13
    go_wp2_with (first | (go_at_call 11; refine (drawn_nil _).mono ?_; rintro e w' ⟨rfl, rfl⟩) | (go_at_call 15; refine (refdrawn_nil _).mono ?_; rintro e w' ⟨rfl, rfl⟩))
    go_ret
    exact ⟨rfl, Fr.alloc _ _ _, trivial⟩
  by_cases h4 : K = 4
  · subst h4
    go_enter Try.func13, Try.ntmps13
    go_wp2_with (first | (go_at_call 9; refine (num_any _ _).mono ?_; rintro e w' ⟨rfl, rfl⟩) | (go_at_call 16; refine (draw_nil _ _).mono ?_; rintro e w' ⟨rfl, rfl⟩) | (go_at_call 10; refine (left_nil _).mono ?_; rintro e w' ⟨rfl, rfl⟩) | (go_at_call 11; refine (drawn_nil _).mono ?_; rintro e w' ⟨rfl, rfl⟩))
    go_ret
    exact ⟨rfl, Fr.alloc _ _ _, trivial⟩
  · have e1 : (K == 1) = false := by simpa using h1
    have e2 : (K == 2) = false := by simpa using h2
    have e3 : (K == 3) = false := by simpa using h3
    have e4 : (K == 4) = false := by simpa using h4
    go_enter Try.func13, Try.ntmps13
    go_wp2_with fail
    go_ret
    exact ⟨rfl, Fr.alloc _ _ _, trivial⟩

set_option maxHeartbeats 4000000 in
set_option maxRecDepth 100000 in
theorem step_some (K A N : Int) (b s r : Nat) (w : World) (h : Pair w (some (b, s, r))) :
    Calls Try.prog 13 #[.pointer (some ⟨b, 0, none⟩), .pointer (some ⟨r, 0, none⟩), .agg #[.int .i64 K, .int .i64 A, .int .i64 N]] w (StepPost (some (b, s, r)) w) := by
  obtain ⟨hrb, hrs, rest, dr, hT, hR⟩ := h
  have lT := hT.lt
  have lR := hR.1.lt
  have hT' : IsTape (w.alloc (Obj.cells #[Value.int IntKind.i64 K, Value.int IntKind.i64 A, Value.int IntKind.i64 N] 34)) b s rest dr := hT.keep (Fr.alloc [] w _) (by simp) (by simp)
  have hR' : IsRef (w.alloc (Obj.cells #[Value.int IntKind.i64 K, Value.int IntKind.i64 A, Value.int IntKind.i64 N] 34)) r rest dr := hR.keep (Fr.alloc [] w _) (by simp)
  have hA := Fr.alloc [b, s, r] w (Obj.cells #[Value.int IntKind.i64 K, Value.int IntKind.i64 A, Value.int IntKind.i64 N] 34)
  have hN := At.alloc_new w 34 #[Value.int IntKind.i64 K, Value.int IntKind.i64 A, Value.int IntKind.i64 N]
  by_cases h1 : K = 1
  · subst h1
    go_enter Try.func13, Try.ntmps13
    go_wp2_with fail
    refine (draw_any _ _ _ _ _ _ hT').mono ?_
    rintro e w1 ⟨rfl, hf1, hT1⟩
    have hR1 := hR'.keep hf1 (by simp; omega)
    have hN1 := (hf1.keep hN (by simp; omega)).cell 2
    simp at hN1
    go_wp2_with fail
    refine (refdraw_any _ _ _ _ _ hR1).mono ?_
    rintro e w2 ⟨rfl, hf2, hR2⟩
    have hT2 := hT1.keep hf2 (by simp; omega) (by simp; omega)
    go_wp2_with (go_at_call 9; refine (num_any _ _).mono ?_; rintro e w' ⟨rfl, rfl⟩)
    go_ret
    exact ⟨rfl, hA.trans ((hf1.mono (by simp)).trans (hf2.mono (by simp))), hrb, hrs, _, _, hT2, hR2⟩
  by_cases h2 : K = 2
  · subst h2
    go_enter Try.func13, Try.ntmps13
    go_wp2_with (first | (go_at_call 10; refine (left_any _ _ _ _ _ hT').mono ?_; rintro e w' ⟨rfl, n1, rfl⟩) | (go_at_call 14; refine (refleft_any _ _ _ _ (hR'.keep (Fr.drewN [] _ n1) (by simp))).mono ?_; rintro e w' ⟨rfl, rfl⟩))
    go_ret
    exact ⟨rfl, hA.trans (Fr.drewN _ _ _), hrb, hrs, _, _, hT', hR'⟩
  by_cases h3 : K = 3
  · subst h3
    go_enter Try.func13, Try.ntmps13
    go_wp2_with (first | (go_at_call 11; refine (drawn_any _ _ _ _ _ hT').mono ?_; rintro e w' ⟨rfl, n1, rfl⟩) | (go_at_call 15; refine (refdrawn_any _ _ _ _ (hR'.keep (Fr.drewN [] _ n1) (by simp))).mono ?_; rintro e w' ⟨rfl, rfl⟩))
    go_ret
    exact ⟨rfl, hA.trans (Fr.drewN _ _ _), hrb, hrs, _, _, hT', hR'⟩
  by_cases h4 : K = 4
  · subst h4
    go_enter Try.func13, Try.ntmps13
    go_wp2_with (first | (go_at_call 9; refine (num_any _ _).mono ?_; rintro e w' ⟨rfl, rfl⟩) | (go_at_call 16; refine (draw_nil _ _).mono ?_; rintro e w' ⟨rfl, rfl⟩) | (go_at_call 10; refine (left_nil _).mono ?_; rintro e w' ⟨rfl, rfl⟩) | (go_at_call 11; refine (drawn_nil _).mono ?_; rintro e w' ⟨rfl, rfl⟩))
    go_ret
    exact ⟨rfl, hA, hrb, hrs, _, _, hT', hR'⟩
  · have e1 : (K == 1) = false := by simpa using h1
    have e2 : (K == 2) = false := by simpa using h2
    have e3 : (K == 3) = false := by simpa using h3
    have e4 : (K == 4) = false := by simpa using h4
    go_enter Try.func13, Try.ntmps13
    go_wp2_with fail
    go_ret
    exact ⟨rfl, hA, hrb, hrs, _, _, hT', hR'⟩

theorem step_any (K A N : Int) (o : Option (Nat × Nat × Nat)) (w : World) (h : Pair w o) :
    Calls Try.prog 13 #[tv o, rv o, .agg #[.int .i64 K, .int .i64 A, .int .i64 N]] w (StepPost o w) := by
  cases o with
  | none => exact step_nil K A N w
  | some q => obtain ⟨b, s, r⟩ := q; exact step_some K A N b s r w h
end Go.Proofs.Ytchoppeoaehgnaa
namespace Go.Proofs.Ytchoppeoaehgnaa
open Go.RowKit Go.Lib Base
/-- v is a slice of steps. -/
def IsSteps (w : World) (v : Value) (n : Nat) (S : Nat → Int × Int × Int) : Prop :=
  IsRows w v n 3 (fun i j => .int .i64 (if j = 0 then (S i).1 else if j = 1 then (S i).2.1 else (S i).2.2)) ∧ n * 24 ≤ 140737488351232 ∧ ∀ i, i < n → (Lit.int .i64 (S i).2.1).wf = true

theorem steps_in {H : Type} {enc : TypeId × Value → H} {W : World} {base : Nat} {v : Value} {d : DataW H} {p : List MemPlace} {ts : List TypeId} {ds : List (DataW H)} {j : Nat}
    (hv : Value.okWide Try.prog W .any base 29 v) (h : DataW.Trod enc Try.prog W 0 (fun _ => true) true 29 v d p) (hsz : (DataW.weightsEach Try.prog ts ds).all (· ≤ reachBytes) = true) (hts : ts[j]? = some 29) (hds : ds[j]? = some d) :
    ∃ x : Nat × (Nat → Int × Int × Int), IsSteps W v x.1 x.2 := by
  obtain ⟨n, F, m, D, h1, h2, h3⟩ := rows_open Try.underlying29 (size := 3) (by kernel_rfl) (by omega) hv h hsz hts hds
  have key : ∀ i, i < n → ∃ q : Int × Int × Int, F i 0 = .int .i64 q.1 ∧ F i 1 = .int .i64 q.2.1 ∧ F i 2 = .int .i64 q.2.2 ∧ (Lit.int .i64 q.2.1).wf = true := by
    intro i hi
    obtain ⟨xs, k, hk, hxy, _, hxl, hf⟩ := DataW.trod_struct Try.underlying34 (h3 i hi)
    have c3 : Try.prog.cellsOf 3 = 1 := by kernel_rfl
    have g0 := hf 0 _ rfl
    have g1 := hf 1 _ rfl
    have g2 := hf 2 _ rfl
    simp only [List.range, List.range.loop, List.map_cons, List.map_nil] at g0 g1 g2
    have hx : ∀ i, i < 3 → ∃ y, xs[i]? = some y := fun i hi => ⟨xs[i]'(by simp at hxl; omega), by simp⟩
    obtain ⟨y0, e0⟩ := hx 0 (by omega)
    obtain ⟨y1, e1⟩ := hx 1 (by omega)
    obtain ⟨y2, e2⟩ := hx 2 (by omega)
    rw [e0] at g0; rw [e1] at g1; rw [e2] at g2
    obtain ⟨z0, hz0, _, _⟩ := DataW.trod_int Try.underlying3 g0
    obtain ⟨z1, hz1, _, hw1⟩ := DataW.trod_int Try.underlying3 g1
    obtain ⟨z2, hz2, _, _⟩ := DataW.trod_int Try.underlying3 g2
    exact ⟨(z0, z1, z2), by simpa [c3] using hz0, by simpa [c3] using hz1, by simpa [c3] using hz2, hw1⟩
  obtain ⟨q, hq⟩ := Deep.choose_lt key
  refine ⟨(n, q), ?_, by rw [show Try.prog.bytesOf 34 = 24 by kernel_rfl, reach_eq] at h2; exact h2, fun i hi => (hq i hi).2.2.2⟩
  obtain ⟨a, cap, hv, g1, g2, g3, g4⟩ := h1
  refine ⟨a, cap, hv, g1, g2, g3, fun i hi => ?_⟩
  obtain ⟨b, o, ha, hc⟩ := g4 i hi
  refine ⟨b, o, ha, fun j hj => ?_⟩
  rw [hc j hj]
  obtain ⟨q0, q1, q2, _⟩ := hq i hi
  match j, hj with
  | 0, _ => simp [q0]
  | 1, _ => simp [q1]
  | 2, _ => simp [q2]

theorem left_pair (o : Option (Nat × Nat × Nat)) (w : World) (h : Pair w o) :
    ∃ n : Nat, (∀ k, Calls Try.prog 10 #[tv o] (w.drewN k) fun e w' => e = .returned (.int .i64 n) ∧ ∃ q, w' = w.drewN q) ∧ (∀ k, Calls Try.prog 14 #[rv o] (w.drewN k) fun e w' => e = .returned (.int .i64 n) ∧ ∃ q, w' = w.drewN q) := by
  cases o with
  | none => exact ⟨0, fun k => (left_nil _).mono fun e w' ⟨he, hw⟩ => ⟨he, k, hw.symm⟩, fun k => (refleft_nil _).mono fun e w' ⟨he, hw⟩ => ⟨he, k, hw.symm⟩⟩
  | some q =>
    obtain ⟨b, s, r⟩ := q
    obtain ⟨_, _, rest, dr, hT, hR⟩ := h
    exact ⟨rest.length, fun k => (left_any b s rest dr _ (hT.keep (Fr.drewN [] _ k) (by simp) (by simp))).mono fun e w' ⟨he, m, hw⟩ => ⟨he, k + m, by rw [hw, World.drewN_drewN]⟩, fun k => (refleft_any r rest dr _ (hR.keep (Fr.drewN [] _ k) (by simp))).mono fun e w' ⟨he, hw⟩ => ⟨he, k, hw.symm⟩⟩
theorem drawn_pair (o : Option (Nat × Nat × Nat)) (w : World) (h : Pair w o) :
    ∃ n : Nat, (∀ k, Calls Try.prog 11 #[tv o] (w.drewN k) fun e w' => e = .returned (.int .i64 n) ∧ ∃ q, w' = w.drewN q) ∧ (∀ k, Calls Try.prog 15 #[rv o] (w.drewN k) fun e w' => e = .returned (.int .i64 n) ∧ ∃ q, w' = w.drewN q) := by
  cases o with
  | none => exact ⟨0, fun k => (drawn_nil _).mono fun e w' ⟨he, hw⟩ => ⟨he, k, hw.symm⟩, fun k => (refdrawn_nil _).mono fun e w' ⟨he, hw⟩ => ⟨he, k, hw.symm⟩⟩
  | some q =>
    obtain ⟨b, s, r⟩ := q
    obtain ⟨_, _, rest, dr, hT, hR⟩ := h
    exact ⟨dr, fun k => (drawn_any b s rest dr _ (hT.keep (Fr.drewN [] _ k) (by simp) (by simp))).mono fun e w' ⟨he, m, hw⟩ => ⟨he, k + m, by rw [hw, World.drewN_drewN]⟩, fun k => (refdrawn_any r rest dr _ (hR.keep (Fr.drewN [] _ k) (by simp))).mono fun e w' ⟨he, hw⟩ => ⟨he, k, hw.symm⟩⟩

def TwoPairs (w wx : World) (oa ob : Option (Nat × Nat × Nat)) : Prop :=
  Pair wx oa ∧ Pair wx ob ∧ Fr [] w wx ∧ (∀ x, x ∈ blocks oa → w.heap.size ≤ x) ∧ (∀ x, x ∈ blocks ob → w.heap.size ≤ x) ∧ (∀ x, x ∈ blocks oa → x ∉ blocks ob)

/-- A pointer that New answers: none, of a text too long. -/
def big (s : ByteArray) : Bool := decide (67108864 < s.size)
def pt (g : Bool) (b : Nat) : Value := if g then .pointer none else .pointer (some ⟨b, 0, none⟩)
def er (g : Bool) : Int := if g then 3 else 0
def NewAll (s : ByteArray) (w : World) (e : Ending) (w' : World) : Prop :=
  e = .returned (.tuple #[pt (big s) (w.heap.size + 1), .int .i64 (er (big s))]) ∧ Fr [] w w' ∧ (big s = false → IsTape w' (w.heap.size + 1) w.heap.size s.data.toList 0)
def RefAll (s : ByteArray) (w : World) (e : Ending) (w' : World) : Prop :=
  e = .returned (.tuple #[pt (big s) w.heap.size, .int .i64 (er (big s))]) ∧ Fr [] w w' ∧ (big s = false → IsRef w' w.heap.size s.data.toList 0)
theorem new_all (s : ByteArray) (w : World) (hs : s.size ≤ 140737488351232) : Calls Try.prog 8 #[.string s] w (NewAll s w) := by
  by_cases h : 67108864 < s.size
  · have e : big s = true := by simp [big, h]
    refine (new_big s w h hs).mono fun x w' ⟨he, hw⟩ => ⟨by rw [he, e]; rfl, hw ▸ Fr.refl _ _, fun h' => by rw [e] at h'; cases h'⟩
  · have e : big s = false := by simp [big]; omega
    refine (new_any s w (by omega)).mono fun x w' ⟨he, hf, hT⟩ => ⟨by rw [he, e]; rfl, hf, fun _ => hT⟩
theorem refnew_all (s : ByteArray) (w : World) (hs : s.size ≤ 140737488351232) : Calls Try.prog 12 #[.string s] w (RefAll s w) := by
  by_cases h : 67108864 < s.size
  · have e : big s = true := by simp [big, h]
    refine (refnew_big s w h hs).mono fun x w' ⟨he, hw⟩ => ⟨by rw [he, e]; rfl, hw ▸ Fr.refl _ _, fun h' => by rw [e] at h'; cases h'⟩
  · have e : big s = false := by simp [big]; omega
    refine (refnew_any s w (by omega)).mono fun x w' ⟨he, hf, hT⟩ => ⟨by rw [he, e]; rfl, hf, fun _ => hT⟩
def who (g : Bool) (b s r : Nat) : Option (Nat × Nat × Nat) := if g then none else some (b, s, r)
theorem who_tv (g : Bool) (b s r : Nat) : pt g b = tv (who g b s r) := by cases g <;> rfl
theorem who_rv (g : Bool) (b s r : Nat) : pt g r = rv (who g b s r) := by cases g <;> rfl
theorem who_pair (g : Bool) (b s r : Nat) (w : World) (rest : List UInt8) (h1 : g = false → IsTape w b s rest 0) (h2 : g = false → IsRef w r rest 0) (h3 : g = false → r ≠ b) (h4 : g = false → r ≠ s) : Pair w (who g b s r) := by
  cases g with
  | true => trivial
  | false => exact ⟨h3 rfl, h4 rfl, rest, 0, h1 rfl, h2 rfl⟩
theorem who_mem {g : Bool} {b s r x : Nat} (h : x ∈ blocks (who g b s r)) : g = false ∧ (x = b ∨ x = s ∨ x = r) := by
  cases g with
  | true => simp [who, blocks] at h
  | false => simpa [who, blocks] using h

set_option maxHeartbeats 8000000 in
set_option maxRecDepth 100000 in
theorem lawDraws_any {w : World} (one : ByteArray) (h1 : one.size ≤ 140737488351232) (two : ByteArray) (h2 : two.size ≤ 140737488351232) (v : Value) (x : Nat × (Nat → Int × Int × Int)) (hz : IsSteps w v x.1 x.2) :
    Calls Try.prog 4 #[.string one, .string two, v] w fun e w' => e = .returned (.bool true) ∧ Fr [] w w' := by
  obtain ⟨n, S⟩ := x
  obtain ⟨⟨a, cap, rfl, hcap, hmx, hnone, hcell⟩, hlen8, hwf⟩ := hz
  dsimp only at *
  go_enter Try.func4, Try.ntmps4
  go_wp2_with fail
  refine (new_all one _ h1).mono ?_
  rintro e w1 ⟨rfl, hf1, hT1⟩
  go_wp2_with fail
  refine (new_all two _ h2).mono ?_
  rintro e w2 ⟨rfl, hf2, hT2⟩
  go_wp2_with fail
  refine (refnew_all one _ h1).mono ?_
  rintro e w3 ⟨rfl, hf3, hR3⟩
  go_wp2_with fail
  refine (refnew_all two _ h2).mono ?_
  rintro e w4 ⟨rfl, hf4, hR4⟩
  have s1 := hf1.size
  have s2 := hf2.size
  have s3 := hf3.size
  have s4 := hf4.size
  have hall : TwoPairs w w4 (who (big one) (w.heap.size + 1) w.heap.size w2.heap.size) (who (big two) (w1.heap.size + 1) w1.heap.size w3.heap.size) := by
    have p1 : Pair w4 (who (big one) (w.heap.size + 1) w.heap.size w2.heap.size) :=
      who_pair _ _ _ _ _ one.data.toList (fun h => (((hT1 h).keep hf2 (by simp) (by simp)).keep hf3 (by simp) (by simp)).keep hf4 (by simp) (by simp)) (fun h => (hR3 h).keep hf4 (by simp)) (fun h => by have := (hT1 h).lt; omega) (fun h => by have := (hT1 h).lt; omega)
    have p2 : Pair w4 (who (big two) (w1.heap.size + 1) w1.heap.size w3.heap.size) :=
      who_pair _ _ _ _ _ two.data.toList (fun h => ((hT2 h).keep hf3 (by simp) (by simp)).keep hf4 (by simp) (by simp)) (fun h => hR4 h) (fun h => by have := (hT2 h).lt; omega) (fun h => by have := (hT2 h).lt; omega)
    refine ⟨p1, p2, ((hf1.trans hf2).trans hf3).trans hf4, fun x hx => ?_, fun x hx => ?_, fun x hx hx' => ?_⟩
    · have := who_mem hx; omega
    · have := who_mem hx; omega
    · have e1 := who_mem hx
      have e2 := who_mem hx'
      have l1 := (hT1 e1.1).lt
      have l2 := (hT2 e2.1).lt
      have l3 := (hR3 e1.1).1.lt
      omega
  generalize hoa : who (big one) (w.heap.size + 1) w.heap.size w2.heap.size = oa at hall
  generalize hob : who (big two) (w1.heap.size + 1) w1.heap.size w3.heap.size = ob at hall
  have Hoa := Lib.hid hoa
  have Hob := Lib.hid hob
  clear hoa hob
  go_upto_region 5 with fail
  go_cut [7, 8, 9, 10, 11, 12, 13, 14, 60] (fun v7 _ v9 _ v11 _ v13 _ v60 wx => v7 = tv oa ∧ v9 = tv ob ∧ v11 = rv oa ∧ v13 = rv ob ∧ v60 = .bool false ∧ wx = w4)
  case first =>
    have EA1 := Lib.hid (show ∀ g, big one = g → pt g (w.heap.size + 1) = tv oa from by rintro _ rfl; rw [← Hoa.out]; exact who_tv _ _ _ _)
    have EA2 := Lib.hid (show ∀ g, big one = g → pt g w2.heap.size = rv oa from by rintro _ rfl; rw [← Hoa.out]; exact who_rv _ _ _ _)
    have EB1 := Lib.hid (show ∀ g, big two = g → pt g (w1.heap.size + 1) = tv ob from by rintro _ rfl; rw [← Hob.out]; exact who_tv _ _ _ _)
    have EB2 := Lib.hid (show ∀ g, big two = g → pt g w3.heap.size = rv ob from by rintro _ rfl; rw [← Hob.out]; exact who_rv _ _ _ _)
    clear hall Hoa Hob hT1 hT2 hR3 hR4
    cases hb1 : big one <;> cases hb2 : big two
    all_goals have HB1 := Lib.hid hb1
    all_goals have HB2 := Lib.hid hb2
    all_goals clear hb1 hb2
    all_goals simp only [pt, er, if_true, if_false, Bool.false_eq_true]
    all_goals go_wp2_with (go_at_call 9; refine (num_any _ _).mono ?_; rintro e w' ⟨rfl, rfl⟩)
    all_goals go_meet
    all_goals exact ⟨EA1.out _ HB1.out, EB1.out _ HB2.out, EA2.out _ HB1.out, EB2.out _ HB2.out, rfl, rfl⟩
  case rest =>
  obtain ⟨rfl, rfl, rfl, rfl, rfl, hw0⟩ := hcut
  obtain rfl : wc = w4 := hw0
  clear hT1 hT2 hR3 hR4
  go_wp2_with fail
  go_loopw [15, 16] (fun i _ wr => ∃ k : Nat, i = .int .i64 k ∧ k ≤ n ∧ TwoPairs w wr oa ob) (fun i _ _ => n - (intOf i).toNat)
  case atStart => exact ⟨0, rfl, by omega, hall⟩
  case round =>
    obtain ⟨k, rfl, hk, hA, hB, hfr, na, nb, dis⟩ := hrel
    have dis' : ∀ x, x ∈ blocks ob → x ∉ blocks oa := fun x h1 h2 => dis x h2 h1
    by_cases hlt : k < n
    · obtain ⟨b, o, rfl, hc⟩ := rowcell hcell hfr hlt
      have c0 := hc 0 (by omega)
      have c1 := hc 1 (by omega)
      have c2 := hc 2 (by omega)
      simp at c0 c1 c2
      have hw1 := hwf k hlt
      generalize (S k).1 = K at *
      generalize (S k).2.1 = A at *
      generalize (S k).2.2 = N at *
      by_cases hev : A.tmod 2 = 0
      · have hev' : (A.tmod 2 == 0) = true := by simpa using hev
        clear hev
        go_wp2_with fail
        refine (step_any _ _ _ oa _ hA).mono ?_
        rintro e w5 ⟨rfl, hf5, hA5⟩
        go_wp2_with fail
        go_roundw
        case rel => exact ⟨k + 1, by go_num, by omega, hA5, hB.keep hf5 dis', hfr.new hf5 na, na, nb, dis⟩
        case measure => simp [intOf]; omega
      · have hev' : (A.tmod 2 == 0) = false := by simpa using hev
        clear hev
        go_wp2_with fail
        refine (step_any _ _ _ ob _ hB).mono ?_
        rintro e w5 ⟨rfl, hf5, hB5⟩
        go_wp2_with fail
        go_roundw
        case rel => exact ⟨k + 1, by go_num, by omega, hA.keep hf5 dis, hB5, hfr.new hf5 nb, na, nb, dis⟩
        case measure => simp [intOf]; omega
    · obtain ⟨n1, hl1, hl2⟩ := left_pair oa wr hA
      obtain ⟨n2, hd1, hd2⟩ := drawn_pair ob wr hB
      go_wp2_with fail
      refine (hl1 0).mono ?_
      rintro e w' ⟨rfl, q1, rfl⟩
      go_wp2_with fail
      refine (hl2 q1).mono ?_
      rintro e w' ⟨rfl, q2, rfl⟩
      go_wp2_with fail
      refine (hd1 q2).mono ?_
      rintro e w' ⟨rfl, q3, rfl⟩
      go_wp2_with fail
      refine (hd2 q3).mono ?_
      rintro e w' ⟨rfl, q4, rfl⟩
      go_wp2_with fail
      go_ret
      exact ⟨rfl, hfr.trans (Fr.drewN _ _ _)⟩
end Go.Proofs.Ytchoppeoaehgnaa
