/- The chain of keyed sums on whole numbers, for reckoning. No program here. -/
import Derived.Test.YtbpaknnnkmjgjaaDoorShaFast
import Derived.Test.YtbpaknnnkmjgjaaDoorShaRestP
import Derived.Test.YtbpaknnnkmjgjaaDoorKdfPassP
namespace Go.Proofs.YtbpaknnnkmjgjaaDoor
open Go.RowKit Go.Lib Base
set_option linter.unusedVariables false
set_option linter.unusedSimpArgs false

def inW (K : List UInt8) : List UInt32 := mixL firstL (wordsB (innerL K))
def outW (K : List UInt8) : List UInt32 := mixL firstL (wordsB (outerL K))
def padN8 : List UInt32 := [2147483648, 0, 0, 0, 0, 0, 0, 768]
/-- The words of the keyed sum of 32 bytes. -/
def hmW (I O U : List UInt32) : List UInt32 := mixL O (mixL I (U ++ padN8) ++ padN8)
theorem wordsB_told : ∀ (U : List UInt32) (r : List UInt8), wordsB (toldL U ++ r) = U ++ wordsB r
  | [], r => rfl
  | x :: U, r => by
    show wordsB (bytesW x ++ toldL U ++ r) = _
    rw [List.append_assoc, be4_bytesW, wordsB_told U r]; rfl
theorem sha96 (P : List UInt8) (hP : P.length = 64) (U : List UInt32) (hU : U.length = 8) : shaL (P ++ toldL U) = toldL (mixL (mixL firstL (wordsB P)) (U ++ padN8)) := by
  have hT : (toldL U).length = 32 := by rw [toldL_len, hU]
  have l : (P ++ toldL U).length = 96 := by rw [List.length_append, hT, hP]
  have hp : (padL 96).length = 32 := by decide +kernel
  have hw : wordsB (padL 96) = padN8 := by decide +kernel
  unfold shaL sumOf
  rw [l]
  unfold wordsOf
  rw [show (P ++ toldL U ++ padL 96).length / 64 = 2 by rw [List.length_append, l, hp], blocksL, blocksL, blocksL]
  have e1 : ((P ++ toldL U ++ padL 96).drop (64 * 0)).take 64 = P := by
    rw [Nat.mul_zero, List.drop_zero, List.append_assoc, ← hP, List.take_left]
  have e2 : ((P ++ toldL U ++ padL 96).drop (64 * 1)).take 64 = toldL U ++ padL 96 := by
    rw [Nat.mul_one, List.append_assoc, ← hP, List.drop_left, List.take_of_length_le (by rw [List.length_append, hT, hp, hP]; omega)]
  rw [e1, e2, wordsB_told, hw]
theorem inW_len (K : List UInt8) : (inW K).length = 8 := mixL_len _ _ rfl
theorem outW_len (K : List UInt8) : (outW K).length = 8 := mixL_len _ _ rfl
theorem hmW_len (I O U : List UInt32) (h : O.length = 8) : (hmW I O U).length = 8 := mixL_len _ _ h
theorem hmac_words (K : List UInt8) (U : List UInt32) (hU : U.length = 8) : hmacL K (toldL U) = toldL (hmW (inW K) (outW K) U) := by
  unfold hmacL
  rw [sha96 _ (innerL_len K) U hU, sha96 _ (outerL_len K) _ (mixL_len _ _ (mixL_len _ _ rfl))]; rfl
def xorW (a b : List UInt32) : List UInt32 := List.zipWith (fun x y => x ^^^ y) a b
theorem xorW_len (a b : List UInt32) (h1 : a.length = 8) (h2 : b.length = 8) : (xorW a b).length = 8 := by simp [xorW, h1, h2]
theorem bigL_xor (a b : Nat) : ∀ n, xorL (bigL a n) (bigL b n) = bigL (a ^^^ b) n
  | 0 => rfl
  | n + 1 => by
    have ih := bigL_xor a b n
    unfold xorL at ih ⊢
    rw [bigL, bigL, bigL, List.zipWith_cons_cons, ih]
    congr 1
    rw [show (256 : Nat) ^ n = 2 ^ (8 * n) by rw [Nat.pow_mul], Nat.xor_div_two_pow, UInt8.ofNat_xor]
theorem xorL_app (a b c d : List UInt8) (h : a.length = b.length) : xorL (a ++ c) (b ++ d) = xorL a b ++ xorL c d := by
  unfold xorL; exact List.zipWith_append h
theorem told_xor : ∀ (a b : List UInt32), a.length = b.length → xorL (toldL a) (toldL b) = toldL (xorW a b)
  | [], [], _ => rfl
  | x :: a, y :: b, h => by
    have ih := told_xor a b (by simpa using h)
    show xorL (bytesW x ++ toldL a) (bytesW y ++ toldL b) = bytesW (x ^^^ y) ++ toldL (xorW a b)
    rw [xorL_app _ _ _ _ (by simp [bytesW, bigL_len]), ih]
    congr 1
    unfold bytesW
    rw [bigL_xor, UInt32.toNat_xor]
  | [], _ :: _, h => by simp at h
  | _ :: _, [], h => by simp at h
/-- n steps of the chain: what is summed next, and the xor of all so far. -/
def chW (I O : List UInt32) : Nat → List UInt32 × List UInt32 → List UInt32 × List UInt32
  | 0, x => x
  | n + 1, x => chW I O n (hmW I O x.1, xorW x.2 (hmW I O x.1))
theorem chW_add (I O : List UInt32) (m : Nat) : ∀ n x, chW I O (n + m) x = chW I O m (chW I O n x)
  | 0, x => by rw [Nat.zero_add]; rfl
  | n + 1, x => by rw [show n + 1 + m = (n + m) + 1 by omega]; exact chW_add I O m n _
theorem chW_succ (I O : List UInt32) (n : Nat) (x : List UInt32 × List UInt32) : chW I O (n + 1) x = (hmW I O (chW I O n x).1, xorW (chW I O n x).2 (hmW I O (chW I O n x).1)) := chW_add I O 1 n x
theorem chW_len (I O : List UInt32) (hO : O.length = 8) : ∀ n x, x.1.length = 8 → x.2.length = 8 → (chW I O n x).1.length = 8 ∧ (chW I O n x).2.length = 8
  | 0, x, h1, h2 => ⟨h1, h2⟩
  | n + 1, x, h1, h2 => chW_len I O hO n _ (hmW_len _ _ _ hO) (xorW_len _ _ h2 (hmW_len _ _ _ hO))
/-- The chain of PBKDF2 in words. -/
theorem pb_words (K s : List UInt8) : ∀ r, pbU K s (r + 1) = toldL (chW (inW K) (outW K) r (wordsB (hmacL K s), wordsB (hmacL K s))).1 ∧ pbF K s (r + 1) = toldL (chW (inW K) (outW K) r (wordsB (hmacL K s), wordsB (hmacL K s))).2
  | 0 => by
    have e : toldL (wordsB (hmacL K s)) = hmacL K s := toldL_wordsB 8 _ (hmacL_len _ _)
    exact ⟨e.symm, (pbF_one K s).trans e.symm⟩
  | r + 1 => by
    obtain ⟨h1, h2⟩ := pb_words K s r
    have hl : (wordsB (hmacL K s)).length = 8 := wordsB_len 8 _ (hmacL_len _ _)
    obtain ⟨l1, l2⟩ := chW_len (inW K) (outW K) (outW_len K) r (wordsB (hmacL K s), wordsB (hmacL K s)) hl hl
    rw [chW_succ]
    have hu : pbU K s (r + 1 + 1) = toldL (hmW (inW K) (outW K) (chW (inW K) (outW K) r (wordsB (hmacL K s), wordsB (hmacL K s))).1) := by
      rw [pbU, h1, hmac_words _ _ l1]
    refine ⟨hu, ?_⟩
    rw [pbF, h2, hu, told_xor _ _ (by rw [l2, hmW_len _ _ _ (outW_len K)])]

theorem packL_cons (x0 x1 x2 x3 x4 x5 x6 x7 : UInt32) : packL [x0, x1, x2, x3, x4, x5, x6, x7] = pack8 x0.toNat x1.toNat x2.toNat x3.toNat x4.toNat x5.toNat x6.toNat x7.toNat := pack8_lt x0 x1 x2 x3 x4 x5 x6 x7
theorem glue_xor (x y : Nat) (a b : UInt32) : (x * 4294967296 + a.toNat) ^^^ (y * 4294967296 + b.toNat) = (x ^^^ y) * 4294967296 + (a ^^^ b).toNat := by
  have ha := a.toNat_lt
  have hb := b.toNat_lt
  have hc := (a ^^^ b).toNat_lt
  generalize hn : (x * 4294967296 + a.toNat) ^^^ (y * 4294967296 + b.toNat) = n
  have h1 : n / 4294967296 = x ^^^ y := by
    rw [← hn]
    have := Nat.xor_div_two_pow (n := 32) (a := x * 4294967296 + a.toNat) (b := y * 4294967296 + b.toNat)
    rw [show (2 : Nat) ^ 32 = 4294967296 from rfl] at this
    rw [this, show (x * 4294967296 + a.toNat) / 4294967296 = x by omega, show (y * 4294967296 + b.toNat) / 4294967296 = y by omega]
  have h2 : n % 4294967296 = (a ^^^ b).toNat := by
    rw [← hn]
    have := Nat.xor_mod_two_pow (n := 32) (a := x * 4294967296 + a.toNat) (b := y * 4294967296 + b.toNat)
    rw [show (2 : Nat) ^ 32 = 4294967296 from rfl] at this
    rw [this, show (x * 4294967296 + a.toNat) % 4294967296 = a.toNat by omega, show (y * 4294967296 + b.toNat) % 4294967296 = b.toNat by omega, UInt32.toNat_xor]
  omega
theorem fold_xor : ∀ (l m : List UInt32) (x y : Nat), l.length = m.length → (xorW l m).foldl (fun n x => n * 4294967296 + x.toNat) (x ^^^ y) = l.foldl (fun n x => n * 4294967296 + x.toNat) x ^^^ m.foldl (fun n x => n * 4294967296 + x.toNat) y
  | [], [], x, y, _ => rfl
  | a :: l, b :: m, x, y, h => by
    have ih := fold_xor l m (x * 4294967296 + a.toNat) (y * 4294967296 + b.toNat) (by simpa using h)
    rw [glue_xor] at ih
    exact ih
  | [], _ :: _, _, _, h => by simp at h
  | _ :: _, [], _, _, h => by simp at h
theorem packL_xor (l m : List UInt32) (h : l.length = m.length) : packL (xorW l m) = packL l ^^^ packL m := by
  have := fold_xor l m 0 0 h
  simpa [packL] using this
theorem fold_lt : ∀ (l : List UInt32) (x B : Nat), x < B → l.foldl (fun n x => n * 4294967296 + x.toNat) x < B * 4294967296 ^ l.length
  | [], x, B, h => by simpa using h
  | a :: l, x, B, h => by
    have ha := a.toNat_lt
    have := fold_lt l (x * 4294967296 + a.toNat) (B * 4294967296) (by omega)
    rw [List.length_cons, Nat.pow_succ, Nat.mul_comm (4294967296 ^ l.length), ← Nat.mul_assoc]
    exact this
theorem packL_lt (l : List UInt32) (h : l.length = 8) : packL l < 4294967296 ^ 8 := by
  have := fold_lt l 0 1 (by omega)
  rw [h, Nat.one_mul] at this
  exact this
theorem told_fold : ∀ (l : List UInt32) (x n : Nat), bigL (l.foldl (fun n x => n * 4294967296 + x.toNat) x) (4 * l.length + n) = bigL x n ++ toldL l
  | [], x, n => by simp [toldL]
  | a :: l, x, n => by
    have ih := told_fold l (x * 4294967296 + a.toNat) (n + 4)
    have ha := a.toNat_lt
    have e : bigL (x * 4294967296 + a.toNat) (n + 4) = bigL x n ++ bytesW a := by
      have u : ∀ v w : Nat, v % 256 = w % 256 → UInt8.ofNat v = UInt8.ofNat w := fun v w h => by
        apply UInt8.toNat_inj.1; simpa using h
      rw [bigL_snoc, bigL_snoc, bigL_snoc, bigL_snoc]
      unfold bytesW
      rw [bigL_snoc, bigL_snoc, bigL_snoc, bigL_snoc, bigL]
      rw [show (x * 4294967296 + a.toNat) / 256 / 256 / 256 / 256 = x by omega]
      rw [u ((x * 4294967296 + a.toNat) / 256 / 256 / 256) (a.toNat / 256 / 256 / 256) (by omega), u ((x * 4294967296 + a.toNat) / 256 / 256) (a.toNat / 256 / 256) (by omega), u ((x * 4294967296 + a.toNat) / 256) (a.toNat / 256) (by omega), u (x * 4294967296 + a.toNat) a.toNat (by omega)]
      simp
    have e2 : toldL (a :: l) = bytesW a ++ toldL l := rfl
    rw [List.foldl_cons, List.length_cons, show 4 * (l.length + 1) + n = 4 * l.length + (n + 4) by omega, ih, e, e2, List.append_assoc]
theorem told_big (l : List UInt32) : toldL l = bigL (packL l) (4 * l.length) := by
  have := told_fold l 0 0
  rw [Nat.add_zero] at this
  rw [packL, this]; rfl
/-- The keyed sum of 32 bytes, on numbers. -/
noncomputable def nhm (I O u : Nat) : Nat :=
  (fun v => nmixW O (piece v 7) (piece v 6) (piece v 5) (piece v 4) (piece v 3) (piece v 2) (piece v 1) (piece v 0) 2147483648 0 0 0 0 0 0 768)
    (nmixW I (piece u 7) (piece u 6) (piece u 5) (piece u 4) (piece u 3) (piece u 2) (piece u 1) (piece u 0) 2147483648 0 0 0 0 0 0 768)
theorem nmix_pad (H U : List UInt32) (hH : H.length = 8) (hU : U.length = 8) :
    nmixW (packL H) (piece (packL U) 7) (piece (packL U) 6) (piece (packL U) 5) (piece (packL U) 4) (piece (packL U) 3) (piece (packL U) 2) (piece (packL U) 1) (piece (packL U) 0) 2147483648 0 0 0 0 0 0 768 = packL (mixL H (U ++ padN8)) := by
  match H, hH, U, hU with
  | [a0, a1, a2, a3, a4, a5, a6, a7], _, [x0, x1, x2, x3, x4, x5, x6, x7], _ =>
    obtain ⟨e0, e1, e2, e3, e4, e5, e6, e7⟩ := piece_pack x0 x1 x2 x3 x4 x5 x6 x7
    rw [e0, e1, e2, e3, e4, e5, e6, e7]
    have h := nmixW_eq a0 a1 a2 a3 a4 a5 a6 a7 x0 x1 x2 x3 x4 x5 x6 x7 2147483648 0 0 0 0 0 0 768
    rw [show (2147483648 : UInt32).toNat = 2147483648 from rfl, show (0 : UInt32).toNat = 0 from rfl, show (768 : UInt32).toNat = 768 from rfl] at h
    exact h
theorem nhm_eq (I O U : List UInt32) (hI : I.length = 8) (hO : O.length = 8) (hU : U.length = 8) : nhm (packL I) (packL O) (packL U) = packL (hmW I O U) := by
  unfold nhm
  simp only []
  rw [nmix_pad I U hI hU, nmix_pad O _ hO (mixL_len _ _ hI)]; rfl
def b256 : Nat := 115792089237316195423570985008687907853269984665640564039457584007913129639936
theorem b256_eq : b256 = 4294967296 ^ 8 := by decide +kernel
/-- n steps of the chain, on numbers. -/
noncomputable def nchain (I O : Nat) (n : Nat) : Nat → Nat → Nat :=
  @Nat.rec (fun _ => Nat → Nat → Nat) (fun u f => Nat.add (Nat.mul u b256) f) (fun _ ih u f => (fun v => cond (Nat.beq v 0) (ih v (Nat.xor f v)) (ih v (Nat.xor f v))) (nhm I O u)) n
theorem nchain_succ (I O n u f : Nat) : nchain I O (n + 1) u f = nchain I O n (nhm I O u) (Nat.xor f (nhm I O u)) := by
  show cond (Nat.beq (nhm I O u) 0) (nchain I O n (nhm I O u) (Nat.xor f (nhm I O u))) (nchain I O n (nhm I O u) (Nat.xor f (nhm I O u))) = _
  cases Nat.beq (nhm I O u) 0 <;> rfl
def both (x : List UInt32 × List UInt32) : Nat := packL x.1 * b256 + packL x.2
theorem nchain_eq (I O : List UInt32) (hI : I.length = 8) (hO : O.length = 8) : ∀ (n : Nat) (x : List UInt32 × List UInt32), x.1.length = 8 → x.2.length = 8 → nchain (packL I) (packL O) n (packL x.1) (packL x.2) = both (chW I O n x)
  | 0, x, h1, h2 => rfl
  | n + 1, x, h1, h2 => by
    have l := hmW_len I O x.1 hO
    rw [nchain_succ, nhm_eq I O x.1 hI hO h1]
    have e : Nat.xor (packL x.2) (packL (hmW I O x.1)) = packL (xorW x.2 (hmW I O x.1)) := (packL_xor _ _ (by rw [h2, l])).symm
    rw [e]
    exact nchain_eq I O hI hO n (hmW I O x.1, xorW x.2 (hmW I O x.1)) l (xorW_len _ _ h2 l)
/-- From one number to the next. -/
noncomputable def nleap (I O n b : Nat) : Nat := nchain I O n (Nat.div b b256) (Nat.mod b b256)
theorem nleap_eq (I O : List UInt32) (hI : I.length = 8) (hO : O.length = 8) (n : Nat) (x : List UInt32 × List UInt32) (h1 : x.1.length = 8) (h2 : x.2.length = 8) : nleap (packL I) (packL O) n (both x) = both (chW I O n x) := by
  have l1 := packL_lt x.1 h1
  have l2 := packL_lt x.2 h2
  rw [← b256_eq] at l1 l2
  have e1 : Nat.div (both x) b256 = packL x.1 := by
    show (packL x.1 * b256 + packL x.2) / b256 = _
    rw [Nat.add_comm, Nat.add_mul_div_right _ _ (by omega), Nat.div_eq_of_lt l2, Nat.zero_add]
  have e2 : Nat.mod (both x) b256 = packL x.2 := by
    show (packL x.1 * b256 + packL x.2) % b256 = _
    rw [Nat.add_comm, Nat.add_mul_mod_self_right, Nat.mod_eq_of_lt l2]
  unfold nleap
  rw [e1, e2, nchain_eq I O hI hO n x h1 h2]
/-- A chain, known at one place, is known k leaps further on. -/
theorem both_next (I O : List UInt32) (hI : I.length = 8) (hO : O.length = 8) (x : List UInt32 × List UInt32) (h1 : x.1.length = 8) (h2 : x.2.length = 8) (k n b b' : Nat) (h : both (chW I O k x) = b) (hb : nleap (packL I) (packL O) n b = b') : both (chW I O (k + n) x) = b' := by
  obtain ⟨l1, l2⟩ := chW_len I O hO k x h1 h2
  rw [chW_add, ← nleap_eq I O hI hO n _ l1 l2, h, hb]
theorem both_told (x : List UInt32 × List UInt32) (h1 : x.1.length = 8) (h2 : x.2.length = 8) (b : Nat) (h : both x = b) : toldL x.2 = bigL (b % b256) 32 := by
  have l2 := packL_lt x.2 h2
  rw [← b256_eq] at l2
  rw [told_big, h2, ← h]
  unfold both
  rw [Nat.add_comm (packL x.1 * b256), Nat.add_mul_mod_self_right, Nat.mod_eq_of_lt l2]
end Go.Proofs.YtbpaknnnkmjgjaaDoor
