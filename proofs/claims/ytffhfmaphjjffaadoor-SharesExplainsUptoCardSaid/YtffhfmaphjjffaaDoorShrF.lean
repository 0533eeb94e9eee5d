/- The field of 256 elements over bytes; polynomials by their coefficients; the polynomial through some points. No program here. -/
import Derived.Test.YtffhfmaphjjffaaDoorGf
namespace Go.Proofs.YtffhfmaphjjffaaDoor
open Gf
set_option linter.unusedVariables false
set_option linter.unusedSimpArgs false

def gmul (a b : UInt8) : UInt8 := UInt8.ofNat (gm a.toNat b.toNat)
def ginv (a : UInt8) : UInt8 := UInt8.ofNat (ip a.toNat 254)
theorem gmul_nat (a b : UInt8) : (gmul a b).toNat = gm a.toNat b.toNat := by
  unfold gmul; rw [UInt8.toNat_ofNat_of_lt' (gm_lt a.toNat_lt)]
theorem ginv_nat (a : UInt8) : (ginv a).toNat = ip a.toNat 254 := by
  unfold ginv; rw [UInt8.toNat_ofNat_of_lt' (ip_lt _)]
theorem gmul_comm (a b : UInt8) : gmul a b = gmul b a := UInt8.toNat_inj.1 (by rw [gmul_nat, gmul_nat, gm_comm a.toNat_lt b.toNat_lt])
theorem gmul_assoc (a b c : UInt8) : gmul (gmul a b) c = gmul a (gmul b c) :=
  UInt8.toNat_inj.1 (by rw [gmul_nat, gmul_nat, gmul_nat, gmul_nat, gm_assoc a.toNat_lt b.toNat_lt c.toNat_lt])
theorem one_gmul (a : UInt8) : gmul 1 a = a := UInt8.toNat_inj.1 (by rw [gmul_nat]; exact gm_one a.toNat_lt)
theorem gmul_one (a : UInt8) : gmul a 1 = a := by rw [gmul_comm, one_gmul]
theorem zero_gmul (a : UInt8) : gmul 0 a = 0 := UInt8.toNat_inj.1 (by rw [gmul_nat]; exact gm_zero _)
theorem gmul_zero (a : UInt8) : gmul a 0 = 0 := by rw [gmul_comm, zero_gmul]
theorem xor_gmul (a b c : UInt8) : gmul (a ^^^ b) c = gmul a c ^^^ gmul b c :=
  UInt8.toNat_inj.1 (by rw [gmul_nat, UInt8.toNat_xor, UInt8.toNat_xor, gmul_nat, gmul_nat]; exact gm_xor _ a.toNat_lt b.toNat_lt)
theorem gmul_xor (a b c : UInt8) : gmul a (b ^^^ c) = gmul a b ^^^ gmul a c := by rw [gmul_comm, xor_gmul, gmul_comm b, gmul_comm c]
theorem nat_ne {a : UInt8} (h : a ≠ 0) : a.toNat ≠ 0 := fun h' => h (UInt8.toNat_inj.1 (by rw [h']; rfl))
theorem gmul_ginv {a : UInt8} (h : a ≠ 0) : gmul a (ginv a) = 1 :=
  UInt8.toNat_inj.1 (by rw [gmul_nat, ginv_nat]; exact gm_inv (nat_ne h) a.toNat_lt)
theorem gmul_eq_zero {a b : UInt8} (h : gmul a b = 0) : a = 0 ∨ b = 0 := by
  have h' : gm a.toNat b.toNat = 0 := by rw [← gmul_nat, h]; rfl
  rcases gm_eq_zero a.toNat_lt b.toNat_lt h' with h | h
  · exact .inl (UInt8.toNat_inj.1 (by rw [h]; rfl))
  · exact .inr (UInt8.toNat_inj.1 (by rw [h]; rfl))
theorem xor_eq_zero {a b : UInt8} (h : a ^^^ b = 0) : a = b := by
  have := congrArg (fun x => x ^^^ b) h
  simpa [UInt8.xor_assoc] using this
theorem xor_ne_zero {a b : UInt8} (h : a ≠ b) : a ^^^ b ≠ 0 := fun h' => h (xor_eq_zero h')
theorem xor_swap (a b c d : UInt8) : (a ^^^ b) ^^^ (c ^^^ d) = (a ^^^ c) ^^^ (b ^^^ d) := by ac_rfl

/-- The polynomial's value; the coefficients the lowest first. -/
def ev : List UInt8 → UInt8 → UInt8
  | [], _ => 0
  | a :: c, x => a ^^^ gmul (ev c x) x
theorem ev_zero : ∀ (c : List UInt8), ev c 0 = c.getD 0 0
  | [] => rfl
  | a :: c => by rw [ev, gmul_zero, UInt8.xor_zero]; rfl
def addP (c d : List UInt8) : List UInt8 := List.zipWith (fun x y => x ^^^ y) c d
theorem ev_add : ∀ (c d : List UInt8) (x : UInt8), c.length = d.length → ev (addP c d) x = ev c x ^^^ ev d x
  | [], [], x, _ => by simp [addP, ev]
  | a :: c, b :: d, x, h => by
    have ih := ev_add c d x (by simpa using h)
    unfold addP at ih
    simp only [addP, List.zipWith_cons_cons, ev, ih, xor_gmul]
    exact xor_swap _ _ _ _
  | [], _ :: _, _, h => by simp at h
  | _ :: _, [], _, h => by simp at h
/-- What is left when x + r is taken out. -/
def quo : List UInt8 → UInt8 → List UInt8
  | [], _ => []
  | [_], _ => []
  | _ :: b :: c, r => ev (b :: c) r :: quo (b :: c) r
theorem quo_len : ∀ (c : List UInt8) (r : UInt8), (quo c r).length = c.length - 1
  | [], _ => rfl
  | [_], _ => rfl
  | _ :: b :: c, r => by
    have := quo_len (b :: c) r
    simp only [quo, List.length_cons] at this ⊢; omega
theorem quo_ev : ∀ (c : List UInt8) (r x : UInt8), ev c x ^^^ ev c r = gmul (ev (quo c r) x) (x ^^^ r)
  | [], r, x => by simp [ev, quo, zero_gmul]
  | [a], r, x => by simp [ev, quo, zero_gmul]
  | a :: b :: c, r, x => by
    have ih := quo_ev (b :: c) r x
    have d1 : ev (a :: b :: c) x = a ^^^ gmul (ev (b :: c) x) x := rfl
    have d2 : ev (a :: b :: c) r = a ^^^ gmul (ev (b :: c) r) r := rfl
    have d3 : ev (quo (a :: b :: c) r) x = ev (b :: c) r ^^^ gmul (ev (quo (b :: c) r) x) x := rfl
    rw [d1, d2, d3]
    generalize ev (b :: c) x = p at ih ⊢
    generalize ev (b :: c) r = q at ih ⊢
    generalize ev (quo (b :: c) r) x = s at ih ⊢
    have e1 : (a ^^^ gmul p x) ^^^ (a ^^^ gmul q r) = gmul p x ^^^ gmul q r := by
      rw [xor_swap, UInt8.xor_self, UInt8.zero_xor]
    have e2 : gmul (gmul s x) (x ^^^ r) = gmul (p ^^^ q) x := by rw [ih, gmul_assoc, gmul_assoc, gmul_comm x]
    rw [e1, xor_gmul, e2, xor_gmul, gmul_xor]
    rw [show gmul q x ^^^ gmul q r ^^^ (gmul p x ^^^ gmul q x) = (gmul p x ^^^ gmul q r) ^^^ (gmul q x ^^^ gmul q x) by ac_rfl, UInt8.xor_self, UInt8.xor_zero]
theorem zero_of_roots : ∀ (xs c : List UInt8), xs.Nodup → c.length ≤ xs.length → (∀ x ∈ xs, ev c x = 0) → ∀ x, ev c x = 0
  | [], c, _, hl, _, x => by
    have e : c = [] := List.eq_nil_of_length_eq_zero (by simpa using hl)
    rw [e]; rfl
  | r :: xs, c, hn, hl, h, x => by
    rw [List.nodup_cons] at hn
    have hr := h r (by simp)
    have q : ∀ y, ev c y = gmul (ev (quo c r) y) (y ^^^ r) := fun y => by rw [← quo_ev, hr, UInt8.xor_zero]
    have z := zero_of_roots xs (quo c r) hn.2 (by rw [quo_len]; simp at hl; omega) (fun y hy => by
      have h1 := h y (by simp [hy])
      rw [q y] at h1
      rcases gmul_eq_zero h1 with h2 | h2
      · exact h2
      · exact absurd (xor_eq_zero h2) (fun e => hn.1 (e ▸ hy)))
    rw [q x, z x, zero_gmul]
/-- Two polynomials of at most n coefficients that agree at n places are one. -/
theorem same_of_roots (xs c d : List UInt8) (hn : xs.Nodup) (hl : c.length ≤ xs.length) (he : c.length = d.length) (h : ∀ x ∈ xs, ev c x = ev d x) : ∀ x, ev c x = ev d x := by
  intro x
  refine xor_eq_zero ?_
  rw [← ev_add _ _ _ he]
  refine zero_of_roots xs _ hn (by simp [addP]; omega) (fun y hy => ?_) x
  rw [ev_add _ _ _ he, h y hy, UInt8.xor_self]

/-- The i-th factor at x, over the first j places. -/
def lagT (xs : List UInt8) (i : Nat) (x : UInt8) : Nat → UInt8
  | 0 => 1
  | j + 1 => if j = i then lagT xs i x j else gmul (lagT xs i x j) (gmul (x ^^^ xs.getD j 0) (ginv (xs.getD i 0 ^^^ xs.getD j 0)))
def lag (xs : List UInt8) (i : Nat) (x : UInt8) : UInt8 := lagT xs i x xs.length
/-- The value at x of the polynomial through the first n points. -/
def atT (xs ys : List UInt8) (x : UInt8) : Nat → UInt8
  | 0 => 0
  | n + 1 => atT xs ys x n ^^^ gmul (ys.getD n 0) (lag xs n x)
def atP (xs ys : List UInt8) (x : UInt8) : UInt8 := atT xs ys x xs.length

theorem nodup_get {xs : List UInt8} (h : xs.Nodup) {i j : Nat} (hi : i < xs.length) (hj : j < xs.length) (hne : i ≠ j) : xs.getD i 0 ≠ xs.getD j 0 := by
  simp only [List.getD, List.getElem?_eq_getElem hi, List.getElem?_eq_getElem hj, Option.getD_some]
  intro e
  exact hne ((List.getElem_inj h).1 e)
theorem lagT_own (xs : List UInt8) (h : xs.Nodup) (i : Nat) (hi : i < xs.length) : ∀ j, j ≤ xs.length → lagT xs i (xs.getD i 0) j = 1
  | 0, _ => rfl
  | j + 1, hj => by
    rw [lagT, lagT_own xs h i hi j (by omega)]
    by_cases e : j = i
    · rw [if_pos e]
    · rw [if_neg e, gmul_ginv (xor_ne_zero (nodup_get h hi (by omega) (Ne.symm e))), one_gmul]
theorem lagT_else (xs : List UInt8) (i m : Nat) (hm : m ≠ i) : ∀ j, m < j → lagT xs i (xs.getD m 0) j = 0
  | 0, h => by omega
  | j + 1, h => by
    rw [lagT]
    rcases Nat.lt_or_ge m j with h1 | h1
    · have ih := lagT_else xs i m hm j h1
      rw [ih, zero_gmul]; split <;> rfl
    · obtain rfl : j = m := by omega
      rw [if_neg hm, UInt8.xor_self, zero_gmul, gmul_zero]
theorem atT_at (xs ys : List UInt8) (h : xs.Nodup) (m : Nat) (hm : m < xs.length) : ∀ n, n ≤ xs.length → atT xs ys (xs.getD m 0) n = if m < n then ys.getD m 0 else 0
  | 0, _ => rfl
  | n + 1, hn => by
    rw [atT, atT_at xs ys h m hm n (by omega)]
    by_cases e : n = m
    · subst e
      rw [if_neg (by omega), if_pos (by omega), lag, lagT_own xs h n hm _ (Nat.le_refl _), gmul_one, UInt8.zero_xor]
    · rw [lag, lagT_else xs n m (Ne.symm e) _ hm, gmul_zero, UInt8.xor_zero]
      by_cases e2 : m < n
      · rw [if_pos e2, if_pos (by omega)]
      · rw [if_neg e2, if_neg (by omega)]
/-- It goes through the points. -/
theorem atP_at (xs ys : List UInt8) (h : xs.Nodup) (m : Nat) (hm : m < xs.length) : atP xs ys (xs.getD m 0) = ys.getD m 0 := by
  rw [atP, atT_at xs ys h m hm _ (Nat.le_refl _), if_pos hm]

/-- A polynomial times x + r, times f. -/
def scaleP (c : List UInt8) (r f : UInt8) : List UInt8 := (List.range (c.length + 1)).map fun i => gmul ((if i < c.length then gmul (c.getD i 0) r else 0) ^^^ (if 0 < i then c.getD (i - 1) 0 else 0)) f
theorem scaleP_len (c : List UInt8) (r f : UInt8) : (scaleP c r f).length = c.length + 1 := by simp [scaleP]
/-- The same, coefficient by coefficient, a: what comes from below. -/
def scaleR (r f : UInt8) : UInt8 → List UInt8 → List UInt8
  | a, [] => [gmul a f]
  | a, b :: c => gmul (gmul b r ^^^ a) f :: scaleR r f b c
theorem scaleR_eq (r f : UInt8) : ∀ (c : List UInt8) (a : UInt8), scaleR r f a c = (List.range (c.length + 1)).map fun i => gmul ((if i < c.length then gmul (c.getD i 0) r else 0) ^^^ (if 0 < i then c.getD (i - 1) 0 else a)) f
  | [], a => by simp [scaleR]
  | b :: c, a => by
    rw [scaleR, scaleR_eq r f c b, List.length_cons, List.range_succ_eq_map (n := c.length + 1), List.map_cons, List.map_map]
    have e0 : ∀ (x : UInt8) (l m : List UInt8), l = m → x :: l = x :: m := fun x l m h => by rw [h]
    refine e0 _ _ _ ?_
    apply List.map_congr_left
    intro i hi
    simp only [Function.comp, Nat.succ_eq_add_one]
    have e1 : (b :: c).getD (i + 1) 0 = c.getD i 0 := rfl
    rw [e1, if_pos (show 0 < i + 1 by omega), Nat.add_sub_cancel]
    have e2 : (i + 1 < c.length + 1) = (i < c.length) := by simp
    have e3 : (if 0 < i then c.getD (i - 1) 0 else b) = (b :: c).getD i 0 := by
      cases i with
      | zero => rfl
      | succ i => rw [if_pos (by omega)]; rfl
    simp only [e2, e3]
theorem scaleP_eq (c : List UInt8) (r f : UInt8) : scaleP c r f = scaleR r f 0 c := (scaleR_eq r f c 0).symm
theorem scaleR_ev (r f x : UInt8) : ∀ (c : List UInt8) (a : UInt8), ev (scaleR r f a c) x = gmul (a ^^^ gmul (ev c x) (x ^^^ r)) f
  | [], a => by simp [scaleR, ev, zero_gmul]
  | b :: c, a => by
    rw [scaleR, ev, scaleR_ev r f x c b, ev]
    generalize ev c x = p
    simp only [xor_gmul, gmul_xor, gmul_assoc]
    rw [show gmul f x = gmul x f from gmul_comm _ _] <;> rw [show gmul r (gmul x f) = gmul x (gmul r f) by rw [← gmul_assoc, gmul_comm r x, gmul_assoc]] <;> ac_rfl
theorem scaleP_ev (c : List UInt8) (r f x : UInt8) : ev (scaleP c r f) x = gmul (gmul (ev c x) (x ^^^ r)) f := by
  rw [scaleP_eq, scaleR_ev, UInt8.zero_xor]
/-- The i-th part's coefficients, over the first j places. -/
def cofT (xs : List UInt8) (i : Nat) (y : UInt8) : Nat → List UInt8
  | 0 => [y]
  | j + 1 => if j = i then cofT xs i y j else scaleP (cofT xs i y j) (xs.getD j 0) (ginv (xs.getD i 0 ^^^ xs.getD j 0))
theorem cofT_ev (xs : List UInt8) (i : Nat) (y x : UInt8) : ∀ j, ev (cofT xs i y j) x = gmul y (lagT xs i x j)
  | 0 => by simp [cofT, lagT, ev, zero_gmul, gmul_one]
  | j + 1 => by
    rw [cofT, lagT]
    by_cases e : j = i
    · rw [if_pos e, if_pos e, cofT_ev xs i y x j]
    · rw [if_neg e, if_neg e, scaleP_ev, cofT_ev xs i y x j]
      simp only [gmul_assoc]
theorem cofT_len (xs : List UInt8) (i : Nat) (y : UInt8) : ∀ j, (cofT xs i y j).length = if i < j then j else j + 1
  | 0 => rfl
  | j + 1 => by
    rw [cofT]
    by_cases e : j = i
    · rw [if_pos e, cofT_len xs i y j, if_neg (by omega), if_pos (by omega)]
    · rw [if_neg e, scaleP_len, cofT_len xs i y j]
      by_cases h : i < j
      · rw [if_pos h, if_pos (by omega)]
      · rw [if_neg h, if_neg (by omega)]
/-- The coefficients of the polynomial through the first n points. -/
def thrT (xs ys : List UInt8) : Nat → List UInt8
  | 0 => List.replicate xs.length 0
  | n + 1 => addP (thrT xs ys n) (cofT xs n (ys.getD n 0) xs.length)
def thr (xs ys : List UInt8) : List UInt8 := thrT xs ys xs.length
theorem thrT_len (xs ys : List UInt8) : ∀ n, n ≤ xs.length → (thrT xs ys n).length = xs.length
  | 0, _ => by simp [thrT]
  | n + 1, h => by
    have h1 := thrT_len xs ys n (by omega)
    have h2 := cofT_len xs n (ys.getD n 0) xs.length
    rw [if_pos (by omega)] at h2
    simp only [thrT, addP, List.length_zipWith, h1, h2]; omega
theorem ev_zeros (x : UInt8) : ∀ n, ev (List.replicate n 0) x = 0
  | 0 => rfl
  | n + 1 => by rw [List.replicate_succ, ev, ev_zeros x n, zero_gmul, UInt8.xor_self]
theorem thrT_ev (xs ys : List UInt8) (x : UInt8) : ∀ n, n ≤ xs.length → ev (thrT xs ys n) x = atT xs ys x n
  | 0, _ => by rw [thrT, ev_zeros]; rfl
  | n + 1, h => by
    have h2 := cofT_len xs n (ys.getD n 0) xs.length
    rw [if_pos (by omega)] at h2
    rw [thrT, atT, ev_add _ _ _ (by rw [thrT_len xs ys n (by omega), h2]), thrT_ev xs ys x n (by omega), cofT_ev]; rfl
theorem thr_len (xs ys : List UInt8) : (thr xs ys).length = xs.length := thrT_len xs ys _ (Nat.le_refl _)
theorem thr_ev (xs ys : List UInt8) (x : UInt8) : ev (thr xs ys) x = atP xs ys x := thrT_ev xs ys x _ (Nat.le_refl _)
/-- A polynomial of at most as many coefficients as there are points is the one through its points. -/
theorem atP_poly (xs ys c : List UInt8) (h : xs.Nodup) (hl : c.length = xs.length) (hy : ∀ m, m < xs.length → ys.getD m 0 = ev c (xs.getD m 0)) (x : UInt8) : atP xs ys x = ev c x := by
  rw [← thr_ev]
  refine same_of_roots xs _ _ h (by rw [thr_len]; omega) (by rw [thr_len, hl]) (fun y hyx => ?_) x
  obtain ⟨m, hm, rfl⟩ := List.getElem_of_mem hyx
  have e : xs[m] = xs.getD m 0 := by simp [List.getD, hm]
  rw [e, thr_ev, atP_at xs ys h m hm, hy m hm]
end Go.Proofs.YtffhfmaphjjffaaDoor
