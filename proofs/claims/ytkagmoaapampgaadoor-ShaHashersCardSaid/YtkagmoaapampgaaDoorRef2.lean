/- The document's small functions: words as whole numbers. -/
import Derived.Test.YtkagmoaapampgaaDoorShaSums
import Derived.Test.YtkagmoaapampgaaDoorUntil
namespace Go.Proofs.YtkagmoaapampgaaDoor
open Go.RowKit Go.Lib Go.Joins Base
set_option linter.unusedVariables false
set_option linter.unusedSimpArgs false

def powersL : List Int := [1, 2, 4, 8, 16, 32, 64, 128, 256, 512, 1024, 2048, 4096, 8192, 16384, 32768, 65536, 131072, 262144, 524288, 1048576, 2097152, 4194304, 8388608, 16777216, 33554432, 67108864, 134217728, 268435456, 536870912, 1073741824, 2147483648, 4294967296]
def Powers (w : World) : Prop := w.rangeAt 3 0 (powersL.map fun n => Value.int .i64 n)
def RefRoots (w : World) : Prop := w.rangeAt 2 0 (rootsL.map fun n => Value.int .i64 (wd n))
theorem range_keep {g : Nat} {vs : List Value} {w w' : World} {S : List Nat} (h : w.rangeAt g 0 vs) (hf : Fr S w w') (hS : g ∉ S) : w'.rangeAt g 0 vs := by
  intro j v hj
  have hc := h j v hj
  rw [← hc]
  have hb : g < w.heap.size := by
    rcases Nat.lt_or_ge g w.heap.size with h' | h'
    · exact h'
    · simp only [World.cell?, Array.getElem?_eq_none h'] at hc; cases hc
  simp only [World.cell?]
  rw [hf.block _ hb hS]
theorem Powers.keep {w w' : World} (h : Powers w) (hf : Fr [] w w') : Powers w' := range_keep h hf (by simp)
theorem RefRoots.keep {w w' : World} (h : RefRoots w) (hf : Fr [] w w') : RefRoots w' := range_keep h hf (by simp)
theorem powersL_get : ∀ i, i ≤ 32 → powersL[i]? = some ((2 ^ i : Nat) : Int) := by decide
theorem Powers.at {w : World} (h : Powers w) {i : Nat} (hi : i ≤ 32) : w.cell? ⟨3, i, none⟩ = some (.int .i64 ((2 ^ i : Nat) : Int)) := by
  have := h i (.int .i64 ((2 ^ i : Nat) : Int)) (by rw [List.getElem?_map, powersL_get i hi]; rfl)
  rwa [Nat.zero_add] at this
theorem RefRoots.at {w : World} (h : RefRoots w) {i : Nat} (hi : i < 64) : w.cell? ⟨2, i, none⟩ = some (.int .i64 (wd (rootsL.getD i 0))) := by
  have hl : rootsL.length = 64 := rfl
  have := h i (.int .i64 (wd (rootsL.getD i 0))) (by rw [List.getElem?_map, List.getElem?_eq_getElem (by omega)]; simp [List.getD, show i < rootsL.length by omega])
  rwa [Nat.zero_add] at this

theorem rotr_nat (x : UInt32) (s : Nat) (h0 : 0 < s) (h1 : s < 32) : (rotr x s).toNat = x.toNat / 2 ^ s + x.toNat % 2 ^ s * 2 ^ (32 - s) := by
  have hx := x.toNat_lt
  unfold rotr
  rw [rotl_nat x (32 - s) (by omega) (by omega), show 32 - (32 - s) = s by omega]
  have e : (4294967296 : Nat) = 2 ^ s * 2 ^ (32 - s) := by rw [← Nat.pow_add, show s + (32 - s) = 32 by omega]
  have e1 : x.toNat * 2 ^ (32 - s) % 4294967296 = 2 ^ (32 - s) * (x.toNat % 2 ^ s) := by
    rw [e, Nat.mul_mod_mul_right, Nat.mul_comm]
  have e2 : x.toNat / 2 ^ s < 2 ^ (32 - s) := by
    rw [Nat.div_lt_iff_lt_mul (Nat.two_pow_pos s), Nat.mul_comm, ← e]; omega
  rw [e1, ← Nat.two_pow_add_eq_or_of_lt e2, Nat.mul_comm, Nat.add_comm]
set_option maxRecDepth 100000 in
set_option maxHeartbeats 1000000 in
theorem rright_any (x : UInt32) (s : Nat) (h1 : s < 32) (w : World) (hP : Powers w) :
    Calls Tryd.prog 56 #[.int .i64 (wd x), .int .i64 s] w fun e w' => e = .returned (.int .i64 (wd (x >>> UInt32.ofNat s))) ∧ Fr [] w w' := by
  have c := hP.at (i := s) (by omega)
  have l1 : (s : Int) < 33 := by omega
  have hp : 0 < 2 ^ s := Nat.two_pow_pos s
  have hq : ∀ t, binOp .quo t (.int .i64 (wd x)) (.int .i64 ((2 ^ s : Nat) : Int)) = pure (.int .i64 (wd (x >>> UInt32.ofNat s))) := by
    intro t
    have e : (wd x).tdiv ((2 ^ s : Nat) : Int) = wd (x >>> UInt32.ofNat s) := by
      unfold wd
      rw [UInt32.toNat_shiftRight, UInt32.toNat_ofNat_of_lt' (by show s < 4294967296; omega), Nat.mod_eq_of_lt h1, Nat.shiftRight_eq_div_pow, Int.tdiv_eq_ediv_of_nonneg (by omega)]
      simp
    have h0 : ((2 ^ s : Nat) : Int) ≠ 0 := by omega
    rw [← e]
    simp only [binOp, Op.intDiv]
    rw [if_neg (by simp)]
    rw [e, wd_i64, if_neg h0]
  generalize ((2 ^ s : Nat) : Int) = q at c hq
  clear hp
  go_enter Tryd.func56, Tryd.ntmps56
  go_wp2_with fail
  go_ret
  exact ⟨rfl, Fr.refl _ _⟩
set_option maxRecDepth 100000 in
set_option maxHeartbeats 1000000 in
theorem rturn_any (x : UInt32) (s : Nat) (h0 : 0 < s) (h1 : s < 32) (w : World) (hP : Powers w) :
    Calls Tryd.prog 55 #[.int .i64 (wd x), .int .i64 s] w fun e w' => e = .returned (.int .i64 (wd (rotr x s))) ∧ Fr [] w w' := by
  have c := hP.at (i := s) (by omega)
  have c2 := hP.at (i := 32 - s) (by omega)
  have l1 : (s : Int) < 33 := by omega
  have l2 : ((32 - s : Nat) : Int) < 33 := by omega
  have w1 : IntKind.i64.wrap (32 - (s : Int)) = ((32 - s : Nat) : Int) := by rw [IntWalk.i64_in _ (by omega)]; omega
  have hp : 0 < 2 ^ s := Nat.two_pow_pos s
  have hx := x.toNat_lt
  have hr := rotr_nat x s h0 h1
  have hrl := (rotr x s).toNat_lt
  have hB : x.toNat % 2 ^ s * 2 ^ (32 - s) < 4294967296 := by rw [hr] at hrl; exact Nat.lt_of_le_of_lt (Nat.le_add_left _ _) hrl
  have e1 : ∀ t, binOp .quo t (.int .i64 (wd x)) (.int .i64 ((2 ^ s : Nat) : Int)) = pure (.int .i64 ((x.toNat / 2 ^ s : Nat) : Int)) := by
    intro t
    have e : (wd x).tdiv ((2 ^ s : Nat) : Int) = ((x.toNat / 2 ^ s : Nat) : Int) := by
      unfold wd; rw [Int.tdiv_eq_ediv_of_nonneg (by omega)]; simp
    have h0 : ((2 ^ s : Nat) : Int) ≠ 0 := by omega
    have hle : x.toNat / 2 ^ s ≤ x.toNat := Nat.div_le_self _ _
    simp only [binOp, Op.intDiv]
    rw [if_neg (by simp), e, wrapI_nat _ (by omega), if_neg h0]
  have e2 : ∀ t, binOp .rem t (.int .i64 (wd x)) (.int .i64 ((2 ^ s : Nat) : Int)) = pure (.int .i64 ((x.toNat % 2 ^ s : Nat) : Int)) := by
    intro t
    have e : (wd x).tmod ((2 ^ s : Nat) : Int) = ((x.toNat % 2 ^ s : Nat) : Int) := by
      unfold wd; rw [Int.tmod_eq_emod_of_nonneg (by omega)]; simp
    have h0 : ((2 ^ s : Nat) : Int) ≠ 0 := by omega
    simp only [binOp, Op.intDiv]
    rw [if_neg (by simp), e, if_neg h0]
  have e3 : ∀ t, binOp .mul t (.int .i64 ((x.toNat % 2 ^ s : Nat) : Int)) (.int .i64 ((2 ^ (32 - s) : Nat) : Int)) = pure (.int .i64 ((x.toNat % 2 ^ s * 2 ^ (32 - s) : Nat) : Int)) := by
    intro t
    rw [binOp_mul]
    show pure (Value.int .i64 (IntKind.i64.wrap _)) = _
    rw [← Int.natCast_mul, wrapI_nat _ (Nat.lt_trans hB (by decide))]
  have e4 : ∀ t, binOp .add t (.int .i64 ((x.toNat / 2 ^ s : Nat) : Int)) (.int .i64 ((x.toNat % 2 ^ s * 2 ^ (32 - s) : Nat) : Int)) = pure (.int .i64 (wd (rotr x s))) := by
    intro t
    rw [binOp_add]
    show pure (Value.int .i64 (IntKind.i64.wrap _)) = _
    rw [← Int.natCast_add, ← hr, wrapI_nat _ (Nat.lt_trans hrl (by decide))]; rfl
  generalize ((2 ^ s : Nat) : Int) = q at c e1 e2
  generalize ((2 ^ (32 - s) : Nat) : Int) = q2 at c2 e3
  generalize ((x.toNat / 2 ^ s : Nat) : Int) = qa at e1 e4
  generalize ((x.toNat % 2 ^ s : Nat) : Int) = qb at e2 e3
  generalize ((x.toNat % 2 ^ s * 2 ^ (32 - s) : Nat) : Int) = qc at e3 e4
  generalize hn : 32 - s = n at c2 l2 w1
  clear hp hx hr hrl hB hn
  go_enter Tryd.func55, Tryd.ntmps55
  go_wp2_with fail
  go_region
  go_wp2_with fail
  go_ret
  exact ⟨rfl, Fr.drew _ _⟩
theorem rbig0_any (x : UInt32) (w : World) (hP : Powers w) : Calls Tryd.prog 50 #[.int .i64 (wd x)] w fun e w' => e = .returned (.int .i64 (wd (big0 x))) ∧ Fr [] w w' := by
  have t1 : ∀ w, Powers w → Calls Tryd.prog 55 #[.int .i64 (wd x), .int .i64 2] w _ := fun w h => rturn_any x 2 (by omega) (by omega) w h
  have t2 : ∀ w, Powers w → Calls Tryd.prog 55 #[.int .i64 (wd x), .int .i64 13] w _ := fun w h => rturn_any x 13 (by omega) (by omega) w h
  have t3 : ∀ w, Powers w → Calls Tryd.prog 55 #[.int .i64 (wd x), .int .i64 22] w _ := fun w h => rturn_any x 22 (by omega) (by omega) w h
  have hF := Fr.refl [] w
  go_enter Tryd.func50, Tryd.ntmps50
  go_wp2_with (first
    | (go_at_call 55; first
      | (refine (t1 _ (hP.keep hF)).mono ?_; clear t1; rintro e w1 ⟨rfl, f1⟩; have hF := hF.trans f1)
      | (refine (t2 _ (hP.keep hF)).mono ?_; clear t2; rintro e w1 ⟨rfl, f1⟩; have hF := hF.trans f1)
      | (refine (t3 _ (hP.keep hF)).mono ?_; clear t3; rintro e w1 ⟨rfl, f1⟩; have hF := hF.trans f1))
    | (go_at_call 56; refine (t3 _ (hP.keep hF)).mono ?_; clear t3; rintro e w1 ⟨rfl, f1⟩; have hF := hF.trans f1)
    | fail)
  go_ret
  exact ⟨rfl, hF⟩
theorem rbig1_any (x : UInt32) (w : World) (hP : Powers w) : Calls Tryd.prog 49 #[.int .i64 (wd x)] w fun e w' => e = .returned (.int .i64 (wd (big1 x))) ∧ Fr [] w w' := by
  have t1 : ∀ w, Powers w → Calls Tryd.prog 55 #[.int .i64 (wd x), .int .i64 6] w _ := fun w h => rturn_any x 6 (by omega) (by omega) w h
  have t2 : ∀ w, Powers w → Calls Tryd.prog 55 #[.int .i64 (wd x), .int .i64 11] w _ := fun w h => rturn_any x 11 (by omega) (by omega) w h
  have t3 : ∀ w, Powers w → Calls Tryd.prog 55 #[.int .i64 (wd x), .int .i64 25] w _ := fun w h => rturn_any x 25 (by omega) (by omega) w h
  have hF := Fr.refl [] w
  go_enter Tryd.func49, Tryd.ntmps49
  go_wp2_with (first
    | (go_at_call 55; first
      | (refine (t1 _ (hP.keep hF)).mono ?_; clear t1; rintro e w1 ⟨rfl, f1⟩; have hF := hF.trans f1)
      | (refine (t2 _ (hP.keep hF)).mono ?_; clear t2; rintro e w1 ⟨rfl, f1⟩; have hF := hF.trans f1)
      | (refine (t3 _ (hP.keep hF)).mono ?_; clear t3; rintro e w1 ⟨rfl, f1⟩; have hF := hF.trans f1))
    | (go_at_call 56; refine (t3 _ (hP.keep hF)).mono ?_; clear t3; rintro e w1 ⟨rfl, f1⟩; have hF := hF.trans f1)
    | fail)
  go_ret
  exact ⟨rfl, hF⟩
theorem rlit0_any (x : UInt32) (w : World) (hP : Powers w) : Calls Tryd.prog 54 #[.int .i64 (wd x)] w fun e w' => e = .returned (.int .i64 (wd (lit0 x))) ∧ Fr [] w w' := by
  have t1 : ∀ w, Powers w → Calls Tryd.prog 55 #[.int .i64 (wd x), .int .i64 7] w _ := fun w h => rturn_any x 7 (by omega) (by omega) w h
  have t2 : ∀ w, Powers w → Calls Tryd.prog 55 #[.int .i64 (wd x), .int .i64 18] w _ := fun w h => rturn_any x 18 (by omega) (by omega) w h
  have t3 : ∀ w, Powers w → Calls Tryd.prog 56 #[.int .i64 (wd x), .int .i64 3] w _ := fun w h => rright_any x 3 (by omega) w h
  have hF := Fr.refl [] w
  go_enter Tryd.func54, Tryd.ntmps54
  go_wp2_with (first
    | (go_at_call 55; first
      | (refine (t1 _ (hP.keep hF)).mono ?_; clear t1; rintro e w1 ⟨rfl, f1⟩; have hF := hF.trans f1)
      | (refine (t2 _ (hP.keep hF)).mono ?_; clear t2; rintro e w1 ⟨rfl, f1⟩; have hF := hF.trans f1)
      | (refine (t3 _ (hP.keep hF)).mono ?_; clear t3; rintro e w1 ⟨rfl, f1⟩; have hF := hF.trans f1))
    | (go_at_call 56; refine (t3 _ (hP.keep hF)).mono ?_; clear t3; rintro e w1 ⟨rfl, f1⟩; have hF := hF.trans f1)
    | fail)
  go_ret
  exact ⟨rfl, hF⟩
theorem rlit1_any (x : UInt32) (w : World) (hP : Powers w) : Calls Tryd.prog 53 #[.int .i64 (wd x)] w fun e w' => e = .returned (.int .i64 (wd (lit1 x))) ∧ Fr [] w w' := by
  have t1 : ∀ w, Powers w → Calls Tryd.prog 55 #[.int .i64 (wd x), .int .i64 17] w _ := fun w h => rturn_any x 17 (by omega) (by omega) w h
  have t2 : ∀ w, Powers w → Calls Tryd.prog 55 #[.int .i64 (wd x), .int .i64 19] w _ := fun w h => rturn_any x 19 (by omega) (by omega) w h
  have t3 : ∀ w, Powers w → Calls Tryd.prog 56 #[.int .i64 (wd x), .int .i64 10] w _ := fun w h => rright_any x 10 (by omega) w h
  have hF := Fr.refl [] w
  go_enter Tryd.func53, Tryd.ntmps53
  go_wp2_with (first
    | (go_at_call 55; first
      | (refine (t1 _ (hP.keep hF)).mono ?_; clear t1; rintro e w1 ⟨rfl, f1⟩; have hF := hF.trans f1)
      | (refine (t2 _ (hP.keep hF)).mono ?_; clear t2; rintro e w1 ⟨rfl, f1⟩; have hF := hF.trans f1)
      | (refine (t3 _ (hP.keep hF)).mono ?_; clear t3; rintro e w1 ⟨rfl, f1⟩; have hF := hF.trans f1))
    | (go_at_call 56; refine (t3 _ (hP.keep hF)).mono ?_; clear t3; rintro e w1 ⟨rfl, f1⟩; have hF := hF.trans f1)
    | fail)
  go_ret
  exact ⟨rfl, hF⟩

set_option maxRecDepth 100000 in
set_option maxHeartbeats 1000000 in
theorem rfour_any (s : ByteArray) (at0 : Nat) (a b c d : UInt8) (r : List UInt8) (hs : s.data.toList.drop at0 = a :: b :: c :: d :: r) (hs63 : s.size ≤ 4611686018427387904) (w : World) :
    Calls Tryd.prog 51 #[.string s, .int .i64 at0] w fun e w' => e = .returned (.int .i64 (wd (be4 a b c d))) ∧ Fr [] w w' := by
  have hl : s.data.toList.length = s.size := by simp
  have hsz : at0 + 4 ≤ s.size := by have := congrArg List.length hs; simp at this; omega
  have l0 : (at0 : Int) < s.size := by omega
  have l1 : (at0 : Int) + 1 < s.size := by omega
  have l2 : (at0 : Int) + 2 < s.size := by omega
  have l3 : (at0 : Int) + 3 < s.size := by omega
  have k1 : (0 : Int) ≤ (at0 : Int) + 1 := by omega
  have k2 : (0 : Int) ≤ (at0 : Int) + 2 := by omega
  have k3 : (0 : Int) ≤ (at0 : Int) + 3 := by omega
  have w1 : IntKind.i64.wrap ((at0 : Int) + 1) = (at0 : Int) + 1 := IntWalk.i64_in _ (by omega)
  have w2 : IntKind.i64.wrap ((at0 : Int) + 2) = (at0 : Int) + 2 := IntWalk.i64_in _ (by omega)
  have w3 : IntKind.i64.wrap ((at0 : Int) + 3) = (at0 : Int) + 3 := IntWalk.i64_in _ (by omega)
  have t1 : ((at0 : Int) + 1).toNat = at0 + 1 := by omega
  have t2 : ((at0 : Int) + 2).toNat = at0 + 2 := by omega
  have t3 : ((at0 : Int) + 3).toNat = at0 + 3 := by omega
  have gt : ∀ j x, (a :: b :: c :: d :: r)[j]? = some x → s.data.toList[at0 + j]? = some x := by
    intro j x h; rw [← hs, List.getElem?_drop] at h; exact h
  have i0 : at0 < s.size := by omega
  have i1 : at0 + 1 < s.size := by omega
  have i2 : at0 + 2 < s.size := by omega
  have i3 : at0 + 3 < s.size := by omega
  have g0 : s[at0]'i0 = a := bget _ (gt 0 a rfl)
  have g1 : s[at0 + 1]'i1 = b := bget _ (gt 1 b rfl)
  have g2 : s[at0 + 2]'i2 = c := bget _ (gt 2 c rfl)
  have g3 : s[at0 + 3]'i3 = d := bget _ (gt 3 d rfl)
  have ha := a.toNat_lt; have hb := b.toNat_lt; have hc := c.toNat_lt; have hd := d.toNat_lt
  have m1 : IntKind.i64.wrap (16777216 * (a.toNat : Int)) = 16777216 * a.toNat := IntWalk.i64_in _ (by omega)
  have m2 : IntKind.i64.wrap (65536 * (b.toNat : Int)) = 65536 * b.toNat := IntWalk.i64_in _ (by omega)
  have m3 : IntKind.i64.wrap (256 * (c.toNat : Int)) = 256 * c.toNat := IntWalk.i64_in _ (by omega)
  have p1 : IntKind.i64.wrap (16777216 * (a.toNat : Int) + 65536 * b.toNat) = 16777216 * a.toNat + 65536 * b.toNat := IntWalk.i64_in _ (by omega)
  have p2 : IntKind.i64.wrap (16777216 * (a.toNat : Int) + 65536 * b.toNat + 256 * c.toNat) = 16777216 * a.toNat + 65536 * b.toNat + 256 * c.toNat := IntWalk.i64_in _ (by omega)
  have p3 : IntKind.i64.wrap (16777216 * (a.toNat : Int) + 65536 * b.toNat + 256 * c.toNat + d.toNat) = wd (be4 a b c d) := by
    rw [be4_wd]; exact IntWalk.i64_in _ (by omega)
  clear ha hb hc hd gt hs hl
  go_enter Tryd.func51, Tryd.ntmps51
  go_wp2_with fail
  go_region
  go_wp2_with fail
  go_ret
  exact ⟨rfl, Fr.drew _ _⟩
end Go.Proofs.YtkagmoaapampgaaDoor
