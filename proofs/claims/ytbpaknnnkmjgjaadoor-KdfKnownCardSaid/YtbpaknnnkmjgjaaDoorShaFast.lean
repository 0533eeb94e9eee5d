/- SHA-256 on whole numbers, for reckoning: the same steps as ShaP's. No program here. -/
import Derived.Test.YtbpaknnnkmjgjaaDoorShaB
namespace Go.Proofs.YtbpaknnnkmjgjaaDoor
open Go.RowKit Go.Lib Base
set_option linter.unusedVariables false
set_option linter.unusedSimpArgs false

/-- A word twice, one behind the other: its turns are pieces of it. -/
def dbl (x : Nat) : Nat := Nat.mul x 4294967297
def cut32 (x : Nat) : Nat := Nat.mod x 4294967296
def nbig0 (x : Nat) : Nat := (fun y => cut32 (Nat.xor (Nat.xor (Nat.shiftRight y 2) (Nat.shiftRight y 13)) (Nat.shiftRight y 22))) (dbl x)
def nbig1 (x : Nat) : Nat := (fun y => cut32 (Nat.xor (Nat.xor (Nat.shiftRight y 6) (Nat.shiftRight y 11)) (Nat.shiftRight y 25))) (dbl x)
def nlit0 (x : Nat) : Nat := (fun y => Nat.xor (cut32 (Nat.xor (Nat.shiftRight y 7) (Nat.shiftRight y 18))) (Nat.shiftRight x 3)) (dbl x)
def nlit1 (x : Nat) : Nat := (fun y => Nat.xor (cut32 (Nat.xor (Nat.shiftRight y 17) (Nat.shiftRight y 19))) (Nat.shiftRight x 10)) (dbl x)
def nchoose (e f g : Nat) : Nat := Nat.xor g (Nat.land e (Nat.xor f g))
def nmost (a b c : Nat) : Nat := Nat.xor (Nat.land a (Nat.xor b c)) (Nat.land b c)
/-- Eight words as one number. -/
def glue (x y : Nat) : Nat := Nat.add (Nat.mul x 4294967296) y
def pack8 (a b c d e f g h : Nat) : Nat := glue (glue (glue (glue (glue (glue (glue a b) c) d) e) f) g) h
/-- The rounds: fin: what is made of the eight words; ks: the constants that are left; the eight words; the sixteen words of the schedule that come next. -/
noncomputable def nrounds (fin : Nat → Nat → Nat → Nat → Nat → Nat → Nat → Nat → Nat) (ks : List Nat) : Nat → Nat → Nat → Nat → Nat → Nat → Nat → Nat → Nat → Nat → Nat → Nat → Nat → Nat → Nat → Nat → Nat → Nat → Nat → Nat → Nat → Nat → Nat → Nat → Nat :=
  @List.rec Nat (fun _ => Nat → Nat → Nat → Nat → Nat → Nat → Nat → Nat → Nat → Nat → Nat → Nat → Nat → Nat → Nat → Nat → Nat → Nat → Nat → Nat → Nat → Nat → Nat → Nat → Nat) (fun a b c d e f g h _ _ _ _ _ _ _ _ _ _ _ _ _ _ _ _ => fin a b c d e f g h)
    (fun k _ ih a b c d e f g h w0 w1 w2 w3 w4 w5 w6 w7 w8 w9 w10 w11 w12 w13 w14 w15 =>
      (fun t => ih (cut32 (Nat.add t (Nat.add (nbig0 a) (nmost a b c)))) a b c (cut32 (Nat.add d t)) e f g w1 w2 w3 w4 w5 w6 w7 w8 w9 w10 w11 w12 w13 w14 w15
        (cut32 (Nat.add (Nat.add (Nat.add (nlit1 w14) w9) (nlit0 w1)) w0)))
      (Nat.add (Nat.add (Nat.add (Nat.add h (nbig1 e)) (nchoose e f g)) k) w0)) ks
theorem nrounds_cons (fin : Nat → Nat → Nat → Nat → Nat → Nat → Nat → Nat → Nat) (k : Nat) (ks : List Nat) (a b c d e f g h w0 w1 w2 w3 w4 w5 w6 w7 w8 w9 w10 w11 w12 w13 w14 w15 : Nat) :
    nrounds fin (k :: ks) a b c d e f g h w0 w1 w2 w3 w4 w5 w6 w7 w8 w9 w10 w11 w12 w13 w14 w15 = nrounds fin ks (cut32 (Nat.add (Nat.add (Nat.add (Nat.add (Nat.add h (nbig1 e)) (nchoose e f g)) k) w0) (Nat.add (nbig0 a) (nmost a b c)))) a b c (cut32 (Nat.add d (Nat.add (Nat.add (Nat.add (Nat.add h (nbig1 e)) (nchoose e f g)) k) w0))) e f g w1 w2 w3 w4 w5 w6 w7 w8 w9 w10 w11 w12 w13 w14 w15 (cut32 (Nat.add (Nat.add (Nat.add (nlit1 w14) w9) (nlit0 w1)) w0)) := by
  unfold nrounds; rfl

theorem rotr_nat (x : UInt32) (n : Nat) (h0 : 0 < n) (hn : n < 32) : (rotr x n).toNat = (Nat.shiftRight (dbl x.toNat) n) % 4294967296 := by
  have hx := x.toNat_lt
  unfold rotr
  rw [rotl_nat x (32 - n) (by omega) (by omega), show 32 - (32 - n) = n by omega]
  generalize x.toNat = y at hx
  obtain ⟨m, hm⟩ : ∃ m, m = 32 - n := ⟨_, rfl⟩
  rw [← hm]
  have hp : 2 ^ n * 2 ^ m = 4294967296 := by rw [← Nat.pow_add, show n + m = 32 by omega]
  have hn0 : 0 < 2 ^ n := Nat.pow_pos (by omega)
  have hm0 : 0 < 2 ^ m := Nat.pow_pos (by omega)
  have hq : y / 2 ^ n < 2 ^ m := (Nat.div_lt_iff_lt_mul hn0).2 (by rw [Nat.mul_comm, hp]; exact hx)
  have e1 : y * 2 ^ m % 4294967296 = (y % 2 ^ n) * 2 ^ m := by rw [← hp, Nat.mul_mod_mul_right]
  have e2 : Nat.shiftRight (dbl y) n = y * 2 ^ m + y / 2 ^ n := by
    show (y * 4294967297) >>> n = _
    rw [Nat.shiftRight_eq_div_pow, show y * 4294967297 = y / 2 ^ n * 0 + (y + y * 2 ^ m * 2 ^ n) by rw [Nat.mul_assoc, Nat.mul_comm (2 ^ m), hp]; omega, Nat.mul_zero, Nat.zero_add, Nat.add_mul_div_right _ _ hn0]; omega
  have hr : (y % 2 ^ n) * 2 ^ m + y / 2 ^ n < 4294967296 := by
    have h1 : y % 2 ^ n < 2 ^ n := Nat.mod_lt _ hn0
    have h2 : (y % 2 ^ n + 1) * 2 ^ m ≤ 2 ^ n * 2 ^ m := Nat.mul_le_mul_right _ h1
    rw [hp, Nat.add_mul] at h2; omega
  have h3 : (y * 2 ^ m + y / 2 ^ n) % 4294967296 = (y * 2 ^ m % 4294967296 + y / 2 ^ n) % 4294967296 := by omega
  rw [e2, h3, e1, Nat.mod_eq_of_lt hr, Nat.or_comm, ← Nat.shiftLeft_eq, or_add _ _ m hq, Nat.shiftLeft_eq, Nat.add_comm]
theorem cut32_eq (x : Nat) : cut32 x = x % 4294967296 := rfl
theorem xor_cut (a b : Nat) : cut32 (Nat.xor a b) = cut32 a ^^^ cut32 b := Nat.xor_mod_two_pow (n := 32) (a := a) (b := b)
theorem nbig0_eq (x : UInt32) : nbig0 x.toNat = (big0 x).toNat := by
  unfold big0
  rw [UInt32.toNat_xor, UInt32.toNat_xor, rotr_nat x 2 (by omega) (by omega), rotr_nat x 13 (by omega) (by omega), rotr_nat x 22 (by omega) (by omega)]
  show cut32 _ = _
  rw [xor_cut, xor_cut]; rfl
theorem nbig1_eq (x : UInt32) : nbig1 x.toNat = (big1 x).toNat := by
  unfold big1
  rw [UInt32.toNat_xor, UInt32.toNat_xor, rotr_nat x 6 (by omega) (by omega), rotr_nat x 11 (by omega) (by omega), rotr_nat x 25 (by omega) (by omega)]
  show cut32 _ = _
  rw [xor_cut, xor_cut]; rfl
theorem nlit0_eq (x : UInt32) : nlit0 x.toNat = (lit0 x).toNat := by
  unfold lit0
  rw [UInt32.toNat_xor, UInt32.toNat_xor, rotr_nat x 7 (by omega) (by omega), rotr_nat x 18 (by omega) (by omega), UInt32.toNat_shiftRight]
  show Nat.xor (cut32 _) _ = _
  rw [xor_cut]; rfl
theorem nlit1_eq (x : UInt32) : nlit1 x.toNat = (lit1 x).toNat := by
  unfold lit1
  rw [UInt32.toNat_xor, UInt32.toNat_xor, rotr_nat x 17 (by omega) (by omega), rotr_nat x 19 (by omega) (by omega), UInt32.toNat_shiftRight]
  show Nat.xor (cut32 _) _ = _
  rw [xor_cut]; rfl
theorem choose_eq (e f g : UInt32) : Base.choose e f g = g ^^^ (e &&& (f ^^^ g)) := by
  unfold Base.choose
  apply UInt32.toBitVec_inj.1
  simp only [UInt32.toBitVec_xor, UInt32.toBitVec_and, UInt32.toBitVec_not]
  ext i
  simp
  cases e.toBitVec[i] <;> cases f.toBitVec[i] <;> cases g.toBitVec[i] <;> rfl
theorem most_eq (a b c : UInt32) : most a b c = (a &&& (b ^^^ c)) ^^^ (b &&& c) := by
  unfold most
  apply UInt32.toBitVec_inj.1
  simp only [UInt32.toBitVec_xor, UInt32.toBitVec_and, UInt32.toBitVec_not]
  ext i
  simp
  cases a.toBitVec[i] <;> cases b.toBitVec[i] <;> cases c.toBitVec[i] <;> rfl
theorem nchoose_eq (e f g : UInt32) : nchoose e.toNat f.toNat g.toNat = (Base.choose e f g).toNat := by
  rw [choose_eq, UInt32.toNat_xor, UInt32.toNat_and, UInt32.toNat_xor]; rfl
theorem nmost_eq (a b c : UInt32) : nmost a.toNat b.toNat c.toNat = (most a b c).toNat := by
  rw [most_eq, UInt32.toNat_xor, UInt32.toNat_and, UInt32.toNat_and, UInt32.toNat_xor]; rfl

theorem sch_get (M : List UInt32) (h : M.length = 16) (i : Nat) : ∀ n m, i < 16 + n → n ≤ m → (sch M m).getD i 0 = (sch M n).getD i 0
  | n, 0, h1, h2 => by obtain rfl : n = 0 := by omega
                       rfl
  | n, m + 1, h1, h2 => by
    rcases Nat.lt_or_ge n (m + 1) with h3 | h3
    · have hl := sch_len M h m
      have e5 : sch M (m + 1) = sch M m ++ [lit1 ((sch M m).getD (m + 14) 0) + (sch M m).getD (m + 9) 0 + lit0 ((sch M m).getD (m + 1) 0) + (sch M m).getD m 0] := rfl
      rw [e5, getD_app_lt _ _ _ (by omega)]
      exact sch_get M h i n m h1 (by omega)
    · obtain rfl : n = m + 1 := by omega
      rfl
/-- The schedule's words, far enough. -/
def wS (M : List UInt32) (i : Nat) : UInt32 := (sch M 80).getD i 0
theorem wS_old (M : List UInt32) (h : M.length = 16) (i : Nat) (hi : i < 16) : wS M i = M.getD i 0 := sch_get M h i 0 80 (by omega) (by omega)
theorem wS_48 (M : List UInt32) (h : M.length = 16) (i : Nat) (hi : i < 64) : (sch M 48).getD i 0 = wS M i := (sch_get M h i 48 80 (by omega) (by omega)).symm
theorem wS_new (M : List UInt32) (h : M.length = 16) (i : Nat) (hi : i < 64) : wS M (i + 16) = lit1 (wS M (i + 14)) + wS M (i + 9) + lit0 (wS M (i + 1)) + wS M i := by
  have e : ∀ k, k < 16 + i → (sch M i).getD k 0 = wS M k := fun k hk => (sch_get M h k i 80 hk (by omega)).symm
  have hl := sch_len M h i
  have e5 : sch M (i + 1) = sch M i ++ [lit1 ((sch M i).getD (i + 14) 0) + (sch M i).getD (i + 9) 0 + lit0 ((sch M i).getD (i + 1) 0) + (sch M i).getD i 0] := rfl
  rw [← e (i + 14) (by omega), ← e (i + 9) (by omega), ← e (i + 1) (by omega), ← e i (by omega)]
  unfold wS
  rw [sch_get M h (i + 16) (i + 1) 80 (by omega) (by omega), e5, getD_app_eq _ _ _ (by omega)]
def ksN : List Nat := rootsL.map UInt32.toNat
set_option maxHeartbeats 2000000 in
theorem nrounds_eq (fin : Nat → Nat → Nat → Nat → Nat → Nat → Nat → Nat → Nat) (H M : List UInt32) (hM : M.length = 16) : ∀ (r j : Nat), j + r = 64 →
    nrounds fin (ksN.drop j) (steps H (sch M 48) j).a.toNat (steps H (sch M 48) j).b.toNat (steps H (sch M 48) j).c.toNat (steps H (sch M 48) j).d.toNat (steps H (sch M 48) j).e.toNat (steps H (sch M 48) j).f.toNat (steps H (sch M 48) j).g.toNat (steps H (sch M 48) j).h.toNat (wS M j).toNat (wS M (j + 1)).toNat (wS M (j + 2)).toNat (wS M (j + 3)).toNat (wS M (j + 4)).toNat (wS M (j + 5)).toNat (wS M (j + 6)).toNat (wS M (j + 7)).toNat (wS M (j + 8)).toNat (wS M (j + 9)).toNat (wS M (j + 10)).toNat (wS M (j + 11)).toNat (wS M (j + 12)).toNat (wS M (j + 13)).toNat (wS M (j + 14)).toNat (wS M (j + 15)).toNat = fin (steps H (sch M 48) 64).a.toNat (steps H (sch M 48) 64).b.toNat (steps H (sch M 48) 64).c.toNat (steps H (sch M 48) 64).d.toNat (steps H (sch M 48) 64).e.toNat (steps H (sch M 48) 64).f.toNat (steps H (sch M 48) 64).g.toNat (steps H (sch M 48) 64).h.toNat
  | 0, j, h => by
    obtain rfl : j = 64 := by omega
    rfl
  | r + 1, j, h => by
    have ih := nrounds_eq fin H M hM r (j + 1) (by omega)
    have hk : ksN.drop j = (rootsL.getD j 0).toNat :: ksN.drop (j + 1) := by
      have hl : j < ksN.length := by show j < 64; omega
      rw [List.drop_eq_getElem_cons hl]
      congr 1
      have hl2 : j < rootsL.length := by show j < 64; omega
      simp [ksN, List.getD, hl2]
    have hw := wS_48 M hM j (by omega)
    have hn := wS_new M hM j (by omega)
    rw [hk, nrounds_cons]
    simp only [Nat.add_eq]
    rw [nbig1_eq, nbig0_eq, nchoose_eq, nmost_eq, nlit1_eq, nlit0_eq]
    rw [show j + 1 + 15 = j + 16 by omega, show j + 1 + 14 = j + 15 by omega, show j + 1 + 13 = j + 14 by omega, show j + 1 + 12 = j + 13 by omega, show j + 1 + 11 = j + 12 by omega, show j + 1 + 10 = j + 11 by omega, show j + 1 + 9 = j + 10 by omega, show j + 1 + 8 = j + 9 by omega, show j + 1 + 7 = j + 8 by omega, show j + 1 + 6 = j + 7 by omega, show j + 1 + 5 = j + 6 by omega, show j + 1 + 4 = j + 5 by omega, show j + 1 + 3 = j + 4 by omega, show j + 1 + 2 = j + 3 by omega, show j + 1 + 1 = j + 2 by omega] at ih
    rw [← ih, steps, hw]
    obtain ⟨s, hs⟩ : ∃ s, s = steps H (sch M 48) j := ⟨_, rfl⟩
    rw [← hs]
    have e1 : cut32 (s.h.toNat + (big1 s.e).toNat + (Base.choose s.e s.f s.g).toNat + (rootsL.getD j 0).toNat + (wS M j).toNat + ((big0 s.a).toNat + (most s.a s.b s.c).toNat)) = (s.step (rootsL.getD j 0) (wS M j)).a.toNat := by
      simp only [St.step, tee, you, UInt32.toNat_add]
      rw [cut32_eq]
      omega
    have e2 : cut32 (s.d.toNat + (s.h.toNat + (big1 s.e).toNat + (Base.choose s.e s.f s.g).toNat + (rootsL.getD j 0).toNat + (wS M j).toNat)) = (s.step (rootsL.getD j 0) (wS M j)).e.toNat := by
      simp only [St.step, tee, you, UInt32.toNat_add]
      rw [cut32_eq]
      omega
    have e3 : cut32 ((lit1 (wS M (j + 14))).toNat + (wS M (j + 9)).toNat + (lit0 (wS M (j + 1))).toNat + (wS M j).toNat) = (wS M (j + 16)).toNat := by
      rw [hn]
      simp only [UInt32.toNat_add]
      rw [cut32_eq]
      omega
    rw [e1, e2, e3]
    rw [show (s.step (rootsL.getD j 0) (wS M j)).b = s.a from rfl, show (s.step (rootsL.getD j 0) (wS M j)).c = s.b from rfl, show (s.step (rootsL.getD j 0) (wS M j)).d = s.c from rfl, show (s.step (rootsL.getD j 0) (wS M j)).f = s.e from rfl, show (s.step (rootsL.getD j 0) (wS M j)).g = s.f from rfl, show (s.step (rootsL.getD j 0) (wS M j)).h = s.g from rfl]
/-- Eight words as one number. -/
def packL (l : List UInt32) : Nat := l.foldl (fun n x => n * 4294967296 + x.toNat) 0
def piece (x i : Nat) : Nat := cut32 (Nat.shiftRight x (Nat.mul 32 i))
/-- The words behind one more block, of the eight words st and the block's words. -/
noncomputable def nmixW (st w0 w1 w2 w3 w4 w5 w6 w7 w8 w9 w10 w11 w12 w13 w14 w15 : Nat) : Nat :=
  (fun a b c d e f g h => nrounds (fun a' b' c' d' e' f' g' h' => pack8 (cut32 (Nat.add a a')) (cut32 (Nat.add b b')) (cut32 (Nat.add c c')) (cut32 (Nat.add d d')) (cut32 (Nat.add e e')) (cut32 (Nat.add f f')) (cut32 (Nat.add g g')) (cut32 (Nat.add h h'))) ksN a b c d e f g h w0 w1 w2 w3 w4 w5 w6 w7 w8 w9 w10 w11 w12 w13 w14 w15)
    (piece st 7) (piece st 6) (piece st 5) (piece st 4) (piece st 3) (piece st 2) (piece st 1) (piece st 0)
theorem pack8_lt (x0 x1 x2 x3 x4 x5 x6 x7 : UInt32) : packL [x0, x1, x2, x3, x4, x5, x6, x7] = pack8 x0.toNat x1.toNat x2.toNat x3.toNat x4.toNat x5.toNat x6.toNat x7.toNat := by
  show _ = _
  simp only [packL, List.foldl, Nat.zero_mul, Nat.zero_add]; rfl
theorem piece_pack (x0 x1 x2 x3 x4 x5 x6 x7 : UInt32) : piece (packL [x0, x1, x2, x3, x4, x5, x6, x7]) 7 = x0.toNat ∧ piece (packL [x0, x1, x2, x3, x4, x5, x6, x7]) 6 = x1.toNat ∧ piece (packL [x0, x1, x2, x3, x4, x5, x6, x7]) 5 = x2.toNat ∧ piece (packL [x0, x1, x2, x3, x4, x5, x6, x7]) 4 = x3.toNat ∧ piece (packL [x0, x1, x2, x3, x4, x5, x6, x7]) 3 = x4.toNat ∧ piece (packL [x0, x1, x2, x3, x4, x5, x6, x7]) 2 = x5.toNat ∧ piece (packL [x0, x1, x2, x3, x4, x5, x6, x7]) 1 = x6.toNat ∧ piece (packL [x0, x1, x2, x3, x4, x5, x6, x7]) 0 = x7.toNat := by
  have p : ∀ (n : Nat) (x : UInt32) (i : Nat), piece (n * 4294967296 + x.toNat) (i + 1) = piece n i ∧ piece (n * 4294967296 + x.toNat) 0 = x.toNat := fun n x i => by
    have hx := x.toNat_lt
    refine ⟨?_, ?_⟩
    · show (n * 4294967296 + x.toNat) >>> (32 * (i + 1)) % 4294967296 = n >>> (32 * i) % 4294967296
      rw [show 32 * (i + 1) = 32 + 32 * i by omega, Nat.shiftRight_add, show (n * 4294967296 + x.toNat) >>> 32 = n by rw [Nat.shiftRight_eq_div_pow]; omega]
    · show (n * 4294967296 + x.toNat) >>> (32 * 0) % 4294967296 = _
      rw [Nat.mul_zero, Nat.shiftRight_zero]; omega
  have z : ∀ x : UInt32, piece x.toNat 0 = x.toNat := fun x => by
    have hx := x.toNat_lt
    show x.toNat >>> (32 * 0) % 4294967296 = _
    rw [Nat.mul_zero, Nat.shiftRight_zero]; omega
  simp only [packL, List.foldl, Nat.zero_mul, Nat.zero_add]
  refine ⟨?_, ?_, ?_, ?_, ?_, ?_, ?_, ?_⟩
  · rw [(p _ _ 6).1, (p _ _ 5).1, (p _ _ 4).1, (p _ _ 3).1, (p _ _ 2).1, (p _ _ 1).1, (p _ _ 0).1, z]
  · rw [(p _ _ 5).1, (p _ _ 4).1, (p _ _ 3).1, (p _ _ 2).1, (p _ _ 1).1, (p _ _ 0).1, (p _ _ 0).2]
  · rw [(p _ _ 4).1, (p _ _ 3).1, (p _ _ 2).1, (p _ _ 1).1, (p _ _ 0).1, (p _ _ 0).2]
  · rw [(p _ _ 3).1, (p _ _ 2).1, (p _ _ 1).1, (p _ _ 0).1, (p _ _ 0).2]
  · rw [(p _ _ 2).1, (p _ _ 1).1, (p _ _ 0).1, (p _ _ 0).2]
  · rw [(p _ _ 1).1, (p _ _ 0).1, (p _ _ 0).2]
  · rw [(p _ _ 0).1, (p _ _ 0).2]
  · rw [(p _ _ 0).2]
set_option maxHeartbeats 2000000 in
theorem nmixW_eq (x0 x1 x2 x3 x4 x5 x6 x7 y0 y1 y2 y3 y4 y5 y6 y7 y8 y9 y10 y11 y12 y13 y14 y15 : UInt32) : nmixW (packL [x0, x1, x2, x3, x4, x5, x6, x7]) y0.toNat y1.toNat y2.toNat y3.toNat y4.toNat y5.toNat y6.toNat y7.toNat y8.toNat y9.toNat y10.toNat y11.toNat y12.toNat y13.toNat y14.toNat y15.toNat = packL (mixL [x0, x1, x2, x3, x4, x5, x6, x7] [y0, y1, y2, y3, y4, y5, y6, y7, y8, y9, y10, y11, y12, y13, y14, y15]) := by
  obtain ⟨e0, e1, e2, e3, e4, e5, e6, e7⟩ := piece_pack x0 x1 x2 x3 x4 x5 x6 x7
  unfold nmixW
  rw [e0, e1, e2, e3, e4, e5, e6, e7]
  have h := fun fin => nrounds_eq fin [x0, x1, x2, x3, x4, x5, x6, x7] [y0, y1, y2, y3, y4, y5, y6, y7, y8, y9, y10, y11, y12, y13, y14, y15] rfl 64 0 rfl
  have w : ∀ i, i < 16 → wS [y0, y1, y2, y3, y4, y5, y6, y7, y8, y9, y10, y11, y12, y13, y14, y15] i = [y0, y1, y2, y3, y4, y5, y6, y7, y8, y9, y10, y11, y12, y13, y14, y15].getD i 0 := fun i hi => wS_old _ rfl i hi
  simp only [Nat.zero_add] at h
  rw [w 0 (by omega), w 1 (by omega), w 2 (by omega), w 3 (by omega), w 4 (by omega), w 5 (by omega), w 6 (by omega), w 7 (by omega), w 8 (by omega), w 9 (by omega), w 10 (by omega), w 11 (by omega), w 12 (by omega), w 13 (by omega), w 14 (by omega), w 15 (by omega)] at h
  refine (h _).trans ?_
  obtain ⟨s, hs⟩ : ∃ s, s = steps [x0, x1, x2, x3, x4, x5, x6, x7] (sch [y0, y1, y2, y3, y4, y5, y6, y7, y8, y9, y10, y11, y12, y13, y14, y15] 48) 64 := ⟨_, rfl⟩
  unfold mixL
  rw [← hs]
  have c : ∀ a b : UInt32, cut32 (Nat.add a.toNat b.toNat) = (a + b).toNat := fun a b => by rw [UInt32.toNat_add, cut32_eq]; rfl
  simp only [c]
  simp only [St.list, List.zipWith_cons_cons, List.zipWith_nil_right]
  rw [pack8_lt]
end Go.Proofs.YtbpaknnnkmjgjaaDoor
