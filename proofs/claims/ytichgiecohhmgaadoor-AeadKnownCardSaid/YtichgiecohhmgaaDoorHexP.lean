/- Bytes as hexadecimal digits, in plain Lean. No program here. -/
import Derived.Test.YtichgiecohhmgaaDoorRow
namespace Go.Proofs.YtichgiecohhmgaaDoor.Base
set_option linter.unusedVariables false
set_option linter.unusedSimpArgs false

/-- The digit of a number below sixteen. -/
def dg (x : UInt8) : UInt8 := if x < 10 then x + 48 else x + 87
/-- A digit's value, or -1. -/
def dv (c : UInt8) : Int := if 48 ≤ c ∧ c ≤ 57 then (c - 48).toNat else if 97 ≤ c ∧ c ≤ 102 then (c - 97).toNat + 10 else -1
def hexL (l : List UInt8) : List UInt8 := l.flatMap fun (b : UInt8) => [dg (b >>> 4), dg (b &&& 15)]
theorem hexL_len (l : List UInt8) : (hexL l).length = 2 * l.length := by
  induction l with
  | nil => rfl
  | cons a r ih =>
    show ([dg (a >>> 4), dg (a &&& 15)] ++ hexL r).length = _
    rw [List.length_append, ih]; simp; omega
/-- What two digits say. -/
def pair (a b : UInt8) : Option UInt8 := if dv a < 0 ∨ dv b < 0 then none else some (UInt8.ofNat (16 * (dv a).toNat + (dv b).toNat))
def unhexL : List UInt8 → Option (List UInt8)
  | [] => some []
  | [_] => none
  | a :: b :: r => match pair a b, unhexL r with
    | some x, some l => some (x :: l)
    | _, _ => none
theorem all8 (P : UInt8 → Prop) (h : ∀ n : Fin 256, P (UInt8.ofNat n.val)) (x : UInt8) : P x := by
  have := h ⟨x.toNat, x.toNat_lt⟩
  simpa using this
theorem dv_range (c : UInt8) : -1 ≤ dv c ∧ dv c < 16 := all8 (fun c => -1 ≤ dv c ∧ dv c < 16) (by decide +kernel) c
theorem pair_hex (x : UInt8) : pair (dg (x >>> 4)) (dg (x &&& 15)) = some x := all8 (fun x => pair (dg (x >>> 4)) (dg (x &&& 15)) = some x) (by decide +kernel) x
theorem unhex_hex : ∀ l, unhexL (hexL l) = some l
  | [] => rfl
  | x :: r => by
    show unhexL (dg (x >>> 4) :: dg (x &&& 15) :: hexL r) = _
    rw [unhexL, pair_hex, unhex_hex r]
theorem unhex_len : ∀ l r, unhexL l = some r → l.length = 2 * r.length
  | [], r, h => by cases h; rfl
  | [_], r, h => by cases h
  | a :: b :: l, r, h => by
    rw [unhexL] at h
    cases hp : pair a b with
    | none => rw [hp] at h; cases h
    | some x =>
      cases hu : unhexL l with
      | none => rw [hp, hu] at h; cases h
      | some q =>
        rw [hp, hu] at h
        cases h
        have := unhex_len l q hu
        simp; omega
/-- The first bad pair, counted in pairs; there is none: all are good. -/
theorem unhex_even : ∀ (n : Nat) (l : List UInt8), l.length = 2 * n → (∀ i, i < n → ∃ x, pair (l.getD (2 * i) 0) (l.getD (2 * i + 1) 0) = some x) → ∃ r, unhexL l = some r ∧ r.length = n ∧ ∀ i, i < n → pair (l.getD (2 * i) 0) (l.getD (2 * i + 1) 0) = r[i]?
  | 0, l, h, _ => by
    obtain rfl := List.eq_nil_of_length_eq_zero (by simpa using h)
    exact ⟨[], rfl, rfl, fun i hi => by omega⟩
  | n + 1, l, h, hall => by
    match l, h with
    | a :: b :: r, h =>
      obtain ⟨x, hx⟩ := hall 0 (by omega)
      have hx' : pair a b = some x := hx
      obtain ⟨q, h1, h2, h3⟩ := unhex_even n r (by simp at h; omega) (fun i hi => by
        obtain ⟨y, hy⟩ := hall (i + 1) (by omega)
        exact ⟨y, hy⟩)
      refine ⟨x :: q, by rw [unhexL, hx', h1], by simp [h2], fun i hi => ?_⟩
      cases i with
      | zero => exact hx'
      | succ i => exact h3 i (by omega)
    | [], h => simp at h
    | [_], h => simp at h; omega
theorem unhex_bad : ∀ (i : Nat) (l : List UInt8), 2 * i + 1 < l.length → pair (l.getD (2 * i) 0) (l.getD (2 * i + 1) 0) = none → unhexL l = none
  | 0, a :: b :: r, _, h => by
    have h' : pair a b = none := h
    rw [unhexL, h']
  | i + 1, a :: b :: r, hl, h => by
    have := unhex_bad i r (by simp at hl; omega) h
    rw [unhexL, this]
    cases pair a b <;> rfl
  | 0, [], hl, _ => by simp at hl
  | 0, [_], hl, _ => by simp at hl
  | i + 1, [], hl, _ => by simp at hl
  | i + 1, [_], hl, _ => by simp at hl
end Go.Proofs.YtichgiecohhmgaaDoor.Base
