/- The document's numbers: 24 digits to the base 65536. No program here. The document's numbers: sums, products, parts. No program here. The document's numbers: carried, added. The document's numbers: added, five times, nothing. The document's numbers: products. The document's numbers: parted. The document's numbers: parted, walked. The document's numbers: modulo p. The document's numbers: of bytes. The document's clamped key. The document's tag, in plain words. No program here. The document's tag. -/
import Derived.Test.YtichgiecohhmgaaDoorPolyV
import Derived.Test.YtichgiecohhmgaaDoorMid
import Derived.Test.YtichgiecohhmgaaDoorQuiet
import Derived.Test.YtichgiecohhmgaaDoorRows
import Derived.Deep.Cut
import Derived.Test.YtichgiecohhmgaaDoorUntil
import Derived.Deep.LoopGhost
import Derived.Deep.CutRange
namespace Go.Proofs.YtichgiecohhmgaaDoor
open Go.RowKit Go.Lib Base
set_option linter.unusedVariables false
set_option linter.unusedSimpArgs false

def VN : List Nat → Nat
  | [] => 0
  | x :: r => x + 65536 * VN r
theorem VN_app (a b : List Nat) : VN (a ++ b) = VN a + 65536 ^ a.length * VN b := by
  induction a with
  | nil => simp [VN]
  | cons x r ih => simp only [List.cons_append, VN, List.length_cons, ih]; grind
theorem VN_take (l : List Nat) (i : Nat) (h : i < l.length) : VN (l.take (i + 1)) = VN (l.take i) + 65536 ^ i * l.getD i 0 := by
  rw [List.take_add_one, List.getElem?_eq_getElem h, VN_app, List.length_take, Nat.min_eq_left (by omega)]
  simp [VN, List.getD, h]
theorem VN_split (l : List Nat) (k : Nat) (h : k ≤ l.length) : VN l = VN (l.take k) + 65536 ^ k * VN (l.drop k) := by
  conv => lhs; rw [← List.take_append_drop k l, VN_app]
  rw [List.length_take, Nat.min_eq_left h]
theorem VN_lt (l : List Nat) (h : ∀ x ∈ l, x < 65536) : VN l < 65536 ^ l.length := by
  induction l with
  | nil => simp [VN]
  | cons x r ih =>
    have h1 := h x (by simp)
    have h2 := ih fun y hy => h y (by simp [hy])
    simp only [VN, List.length_cons, Nat.pow_succ]
    omega
/-- The digits of a number. -/
def dg (V : Nat) : List Nat := (List.range 24).map fun i => V / 65536 ^ i % 65536
theorem dg_len (V : Nat) : (dg V).length = 24 := by simp [dg]
theorem dg_get (V i : Nat) (h : i < 24) : (dg V)[i]? = some (V / 65536 ^ i % 65536) := by simp [dg, h]
theorem dg_getD (V i : Nat) (h : i < 24) : (dg V).getD i 0 = V / 65536 ^ i % 65536 := by simp [List.getD, dg_get V i h]
theorem dg_small (V : Nat) : ∀ x ∈ dg V, x < 65536 := by
  intro x hx
  obtain ⟨i, _, rfl⟩ := List.mem_map.1 hx
  exact Nat.mod_lt _ (by omega)
theorem VN_dg_take (V : Nat) : ∀ i, i ≤ 24 → VN ((dg V).take i) = V % 65536 ^ i
  | 0, _ => by simp [VN, Nat.mod_one]
  | i + 1, h => by
    rw [VN_take _ _ (by rw [dg_len]; omega), VN_dg_take V i (by omega), dg_getD V i (by omega), Nat.pow_succ, Nat.mod_mul]
theorem VN_dg (V : Nat) (h : V < 65536 ^ 24) : VN (dg V) = V := by
  have := VN_dg_take V 24 (by omega)
  rw [List.take_of_length_le (by rw [dg_len]; omega), Nat.mod_eq_of_lt h] at this
  exact this
/-- The digits of 24 numbers that may be greater: one step of the carrying. -/
theorem carried_step (l : List Nat) (hl : l.length = 24) (i : Nat) (hi : i < 24) (c x : Nat) (hc : c = VN (l.take i) / 65536 ^ i) (hx : x = l.getD i 0 + c) :
    VN l / 65536 ^ i % 65536 = x % 65536 ∧ x / 65536 = VN (l.take (i + 1)) / 65536 ^ (i + 1) := by
  have h1 := VN_take l i (by omega)
  have hp : 0 < 65536 ^ i := Nat.pow_pos (by omega)
  have h2 : VN (l.take (i + 1)) / 65536 ^ i = x := by
    rw [h1, Nat.add_mul_div_left _ _ hp, hx, hc, Nat.add_comm]
  constructor
  · have h3 := VN_split l (i + 1) (by omega)
    have h4 : VN l / 65536 ^ i = x + 65536 * VN (l.drop (i + 1)) := by
      rw [h3, Nat.pow_succ, Nat.mul_assoc, Nat.add_mul_div_left _ _ hp, h2]
    rw [h4, Nat.add_mul_mod_self_left]
  · rw [Nat.pow_succ, ← Nat.div_div_eq_div_mul, h2]
def carriedUp (l : List Nat) (i : Nat) : List Nat := (dg (VN l)).take i ++ l.drop i
theorem carriedUp_len (l : List Nat) (hl : l.length = 24) (i : Nat) (hi : i ≤ 24) : (carriedUp l i).length = 24 := by simp [carriedUp, dg_len, hl]; omega
theorem carriedUp_get (l : List Nat) (hl : l.length = 24) (i : Nat) (hi : i < 24) : (carriedUp l i).getD i 0 = l.getD i 0 := by
  have e : ((dg (VN l)).take i).length = i := by rw [List.length_take, dg_len]; omega
  simp only [carriedUp, List.getD]
  rw [List.getElem?_append_right (by omega), e, Nat.sub_self, List.getElem?_drop, Nat.add_zero]
theorem carriedUp_set (l : List Nat) (hl : l.length = 24) (i : Nat) (hi : i < 24) (y : Nat) (hy : VN l / 65536 ^ i % 65536 = y) : (carriedUp l i).set i y = carriedUp l (i + 1) := by
  have e : ((dg (VN l)).take i).length = i := by rw [List.length_take, dg_len]; omega
  unfold carriedUp
  rw [List.set_append_right _ _ (by omega), e, Nat.sub_self, List.take_add_one, dg_get _ _ hi, hy, List.drop_eq_getElem_cons (by omega), List.set_cons_zero]
  simp
theorem carriedUp_end (l : List Nat) (hl : l.length = 24) : carriedUp l 24 = dg (VN l) := by
  unfold carriedUp
  rw [List.take_of_length_le (by rw [dg_len]; omega), List.drop_eq_nil_of_le (by omega), List.append_nil]
def ncells (l : List Nat) : List Value := l.map fun (n : Nat) => Value.int .i64 (n : Int)
theorem ncells_len (l : List Nat) : (ncells l).length = l.length := by simp [ncells]
theorem ncells_get (l : List Nat) (i : Nat) (h : i < l.length) : (ncells l)[i]? = some (.int .i64 ((l.getD i 0 : Nat) : Int)) := by
  simp [ncells, List.getD, h]
theorem ncells_set (l : List Nat) (i n : Nat) : (ncells l).set i (.int .i64 (n : Int)) = ncells (l.set i n) := by simp [ncells, List.map_set]
end Go.Proofs.YtichgiecohhmgaaDoor
namespace Go.Proofs.YtichgiecohhmgaaDoor
open Go.RowKit Go.Lib Base
set_option linter.unusedVariables false
set_option linter.unusedSimpArgs false

/-- A row that is replaced from its beginning. -/
def upTo (old new : List Nat) (i : Nat) : List Nat := new.take i ++ old.drop i
theorem upTo_zero (old new : List Nat) : upTo old new 0 = old := by simp [upTo]
theorem upTo_len (old new : List Nat) (n : Nat) (ho : old.length = n) (hn : new.length = n) (i : Nat) (hi : i ≤ n) : (upTo old new i).length = n := by simp [upTo, ho, hn]; omega
theorem upTo_get (old new : List Nat) (n : Nat) (ho : old.length = n) (hn : new.length = n) (i j : Nat) (hi : i ≤ j) (hj : j < n) : (upTo old new i).getD j 0 = old.getD j 0 := by
  have e : (new.take i).length = i := by rw [List.length_take]; omega
  simp only [upTo, List.getD]
  rw [List.getElem?_append_right (by omega), e, List.getElem?_drop, show i + (j - i) = j by omega]
theorem upTo_set (old new : List Nat) (n : Nat) (ho : old.length = n) (hn : new.length = n) (i : Nat) (hi : i < n) (y : Nat) (hy : new.getD i 0 = y) : (upTo old new i).set i y = upTo old new (i + 1) := by
  have e : (new.take i).length = i := by rw [List.length_take]; omega
  have h2 : new[i]? = some y := by
    rw [List.getElem?_eq_getElem (by omega)]
    simp only [List.getD, List.getElem?_eq_getElem (show i < new.length by omega), Option.getD_some] at hy
    rw [hy]
  unfold upTo
  rw [List.set_append_right _ _ (by omega), e, Nat.sub_self, List.take_add_one, h2, List.drop_eq_getElem_cons (by omega), List.set_cons_zero]
  simp
theorem upTo_end (old new : List Nat) (n : Nat) (ho : old.length = n) (hn : new.length = n) : upTo old new n = new := by
  unfold upTo
  rw [List.take_of_length_le (by omega), List.drop_eq_nil_of_le (by omega), List.append_nil]
/-- Digits by a rule. -/
def fl (n : Nat) (f : Nat → Nat) : List Nat := (List.range n).map f
theorem fl_len (n : Nat) (f : Nat → Nat) : (fl n f).length = n := by simp [fl]
theorem fl_get (n : Nat) (f : Nat → Nat) (i : Nat) (h : i < n) : (fl n f).getD i 0 = f i := by simp [fl, List.getD, h]
theorem fl_congr (n : Nat) (f g : Nat → Nat) (h : ∀ i, i < n → f i = g i) : fl n f = fl n g := by
  unfold fl
  apply List.map_congr_left
  intro i hi
  exact h i (List.mem_range.1 hi)
theorem fl_succ (n : Nat) (f : Nat → Nat) : VN (fl (n + 1) f) = VN (fl n f) + 65536 ^ n * f n := by
  unfold fl
  rw [List.range_succ, List.map_append, VN_app]
  simp [VN]
theorem fl_add (f g : Nat → Nat) : ∀ n, VN (fl n fun i => f i + g i) = VN (fl n f) + VN (fl n g)
  | 0 => by simp [fl, VN]
  | n + 1 => by rw [fl_succ, fl_succ, fl_succ, fl_add f g n]; grind
theorem fl_mul (f : Nat → Nat) (c : Nat) : ∀ n, VN (fl n fun i => c * f i) = c * VN (fl n f)
  | 0 => by simp [fl, VN]
  | n + 1 => by rw [fl_succ, fl_succ, fl_mul f c n]; grind
theorem fl_dg (V n : Nat) : VN (fl n fun i => V / 65536 ^ i % 65536) = V % 65536 ^ n := by
  induction n with
  | zero => simp [fl, VN, Nat.mod_one]
  | succ n ih => rw [fl_succ, ih, Nat.pow_succ, Nat.mod_mul]
theorem dg_fl (V : Nat) : dg V = fl 24 fun i => V / 65536 ^ i % 65536 := rfl
theorem dg_congr (a b : Nat) (h : a % 65536 ^ 24 = b % 65536 ^ 24) : dg a = dg b := by
  rw [dg_fl, dg_fl]
  refine fl_congr _ _ _ fun i hi => ?_
  have key : ∀ x : Nat, x / 65536 ^ i % 65536 = x % 65536 ^ 24 / 65536 ^ i % 65536 := fun x => by
    have e : (65536 : Nat) ^ 24 = 65536 ^ i * (65536 * 65536 ^ (23 - i)) := by rw [← Nat.mul_assoc, ← Nat.pow_succ, ← Nat.pow_add]; congr 1; omega
    rw [e, Nat.mod_mul, Nat.add_comm, Nat.mul_add_div (Nat.pow_pos (by omega)), Nat.div_eq_of_lt (Nat.mod_lt _ (Nat.pow_pos (by omega))), Nat.add_zero, Nat.mod_mul_right_mod]
  rw [key a, key b, h]
def sumL (a b : Nat) : List Nat := fl 24 fun i => a / 65536 ^ i % 65536 + b / 65536 ^ i % 65536
theorem sumL_dg (a b : Nat) : dg (VN (sumL a b)) = dg (a + b) := by
  apply dg_congr
  unfold sumL
  rw [fl_add, fl_dg, fl_dg]
  omega
def fiveL (a : Nat) : List Nat := fl 24 fun i => 5 * (a / 65536 ^ i % 65536)
theorem fiveL_dg (a : Nat) : dg (VN (fiveL a)) = dg (5 * a) := by
  apply dg_congr
  unfold fiveL
  rw [fl_mul, fl_dg]
  omega
/-- Is a number 0? -/
theorem digits_zero (V : Nat) (h : V < 65536 ^ 24) (hz : ∀ i, i < 24 → V / 65536 ^ i % 65536 = 0) : V = 0 := by
  have h1 := fl_dg V 24
  rw [Nat.mod_eq_of_lt h, fl_congr 24 _ (fun i => 0 * 0) (fun i hi => hz i hi), fl_mul (fun _ => 0) 0 24, Nat.zero_mul] at h1
  exact h1.symm
theorem digit_zero (i : Nat) : 0 / 65536 ^ i % 65536 = 0 := by simp
theorem dg_zero : dg 0 = List.replicate 24 0 := by decide
/-- A product's row. -/
def rowL (x b k j : Nat) : List Nat := List.replicate k 0 ++ (fl j fun i => x * (b / 65536 ^ i % 65536)) ++ List.replicate (24 - (k + j)) 0
theorem VN_zeros : ∀ n, VN (List.replicate n 0) = 0
  | 0 => rfl
  | n + 1 => by rw [List.replicate_succ, VN, VN_zeros n]
theorem rowL_len (x b k j : Nat) (h : k + j ≤ 24) : (rowL x b k j).length = 24 := by simp [rowL, fl_len]; omega
theorem rowL_val (x b k j : Nat) : VN (rowL x b k j) = 65536 ^ k * (x * (b % 65536 ^ j)) := by
  unfold rowL
  rw [VN_app, VN_app, VN_zeros, VN_zeros, fl_mul, fl_dg, List.length_replicate]
  simp
theorem rowL_zero (x b k : Nat) (h : k ≤ 24) : rowL x b k 0 = List.replicate 24 0 := by
  simp only [rowL, fl, List.range_zero, List.map_nil, List.append_nil, Nat.add_zero, List.replicate_append_replicate]
  rw [show k + (24 - k) = 24 by omega]
theorem rowL_set (x b k j : Nat) (h : k + j < 24) : (rowL x b k j).set (k + j) (x * (b / 65536 ^ j % 65536)) = rowL x b k (j + 1) := by
  unfold rowL
  rw [List.set_append_right _ _ (by simp [fl_len])]
  simp only [List.length_append, List.length_replicate, fl_len, Nat.sub_self]
  rw [show 24 - (k + j) = (24 - (k + (j + 1))) + 1 by omega, List.replicate_succ, List.set_cons_zero]
  simp only [fl, List.range_succ, List.map_append, List.map_cons, List.map_nil, List.append_assoc, List.cons_append, List.nil_append]
theorem rowL_get (x b k j i : Nat) (h : i < 24) (hx : x < 65536) : (rowL x b k j).getD i 0 < 1152921504606846976 := by
  have : ∀ y ∈ rowL x b k j, y < 1152921504606846976 := by
    intro y hy
    simp only [rowL, List.mem_append, List.mem_replicate, fl, List.mem_map, List.mem_range] at hy
    rcases hy with (⟨_, rfl⟩ | ⟨t, _, rfl⟩) | ⟨_, rfl⟩
    · omega
    · have := Nat.mod_lt (b / 65536 ^ t) (show 65536 > 0 by omega)
      calc x * (b / 65536 ^ t % 65536) ≤ 65536 * 65536 := Nat.mul_le_mul (by omega) (by omega)
        _ < _ := by omega
    · omega
  simp only [List.getD]
  cases hg : (rowL x b k j)[i]? with
  | none => simp
  | some y => exact this y (List.mem_of_getElem? hg)
/-- The product of what is read so far. -/
theorem prod_step (a b i : Nat) : (a % 65536 ^ i) * b + 65536 ^ i * ((a / 65536 ^ i % 65536) * b) = (a % 65536 ^ (i + 1)) * b := by
  rw [Nat.pow_succ, Nat.mod_mul]; grind
/-- The two parts of a number. -/
theorem part_low (V i : Nat) (h : i < 8) : V % 1361129467683753853853498429727072845824 / 65536 ^ i % 65536 = V / 65536 ^ i % 65536 := by
  have e : (1361129467683753853853498429727072845824 : Nat) = 65536 ^ i * (65536 * (65536 ^ (7 - i) * 4)) := by
    rw [← Nat.mul_assoc, ← Nat.mul_assoc, ← Nat.pow_succ, ← Nat.pow_add, show i + 1 + (7 - i) = 8 by omega]
  rw [e, Nat.mod_mul, Nat.add_comm, Nat.mul_add_div (Nat.pow_pos (by omega)), Nat.div_eq_of_lt (Nat.mod_lt _ (Nat.pow_pos (by omega))), Nat.add_zero, Nat.mod_mul_right_mod]
theorem part_mid (V : Nat) : V % 1361129467683753853853498429727072845824 / 65536 ^ 8 % 65536 = V / 65536 ^ 8 % 65536 % 4 := by omega
theorem part_top (V i : Nat) (h : 8 < i) : V % 1361129467683753853853498429727072845824 / 65536 ^ i % 65536 = 0 := by
  have h1 : 65536 ^ 9 ≤ 65536 ^ i := Nat.pow_le_pow_right (by omega) h
  have h2 := Nat.mod_lt V (show 1361129467683753853853498429727072845824 > 0 by omega)
  rw [Nat.div_eq_of_lt (Nat.lt_of_lt_of_le (Nat.lt_trans h2 (by omega)) h1)]
theorem part_high (V k : Nat) : V / 1361129467683753853853498429727072845824 / 65536 ^ k % 65536 = V / 65536 ^ (k + 8) % 65536 / 4 + V / 65536 ^ (k + 8 + 1) % 65536 % 4 * 16384 := by
  have e1 : V / 1361129467683753853853498429727072845824 / 65536 ^ k = V / 65536 ^ (k + 8) / 4 := by
    rw [Nat.div_div_eq_div_mul, Nat.div_div_eq_div_mul, Nat.pow_add]
    congr 1
    rw [Nat.mul_comm, Nat.mul_assoc]
  have e2 : V / 65536 ^ (k + 8 + 1) = V / 65536 ^ (k + 8) / 65536 := by rw [Nat.pow_succ, Nat.div_div_eq_div_mul]
  rw [e1, e2]
  generalize V / 65536 ^ (k + 8) = A
  omega
theorem part_last (V : Nat) (h : V < 65536 ^ 24) (i : Nat) (hi : 24 ≤ i) : V / 65536 ^ i % 65536 = 0 := by
  rw [Nat.div_eq_of_lt (Nat.lt_of_lt_of_le h (Nat.pow_le_pow_right (by omega) hi))]
theorem part_over (V : Nat) (h : V < 65536 ^ 24) (k : Nat) (hk : 16 ≤ k) : V / 1361129467683753853853498429727072845824 / 65536 ^ k % 65536 = 0 := by
  rw [part_high, part_last V h _ (by omega), part_last V h _ (by omega)]
/-- One step of the reckoning modulo p. -/
theorem fold_mod (V : Nat) : (V % 1361129467683753853853498429727072845824 + 5 * (V / 1361129467683753853853498429727072845824)) % 1361129467683753853853498429727072845819 = V % 1361129467683753853853498429727072845819 := by omega
theorem fold_lt (V : Nat) (h : V / 1361129467683753853853498429727072845824 ≠ 0) : V % 1361129467683753853853498429727072845824 + 5 * (V / 1361129467683753853853498429727072845824) < V := by omega
theorem fold_end (V : Nat) (h : V / 1361129467683753853853498429727072845824 = 0) : V % 1361129467683753853853498429727072845824 = V := by omega
end Go.Proofs.YtichgiecohhmgaaDoor
namespace Go.Proofs.YtichgiecohhmgaaDoor
open Go.RowKit Go.Lib Go.Joins Base
set_option linter.unusedVariables false
set_option linter.unusedSimpArgs false

theorem quoJ (x k : Nat) (hk : k ≠ 0) (hx : x < 9223372036854775808) (t : TypeId) : binOp .quo t (.int .i64 (x : Int)) (.int .i64 (k : Int)) = pure (.int .i64 ((x / k : Nat) : Int)) := by
  have e : (x : Int).tdiv (k : Int) = ((x / k : Nat) : Int) := by rw [Int.tdiv_eq_ediv_of_nonneg (by omega)]; simp
  have h0 : (k : Int) ≠ 0 := by omega
  have hle : x / k ≤ x := Nat.div_le_self _ _
  simp only [binOp, Op.intDiv]
  rw [if_neg (by simp), e, wrapI_nat _ (by omega), if_neg h0]
theorem remJ (x k : Nat) (hk : k ≠ 0) (t : TypeId) : binOp .rem t (.int .i64 (x : Int)) (.int .i64 (k : Int)) = pure (.int .i64 ((x % k : Nat) : Int)) := by
  have e : (x : Int).tmod (k : Int) = ((x % k : Nat) : Int) := by rw [Int.tmod_eq_emod_of_nonneg (by omega)]; simp
  have h0 : (k : Int) ≠ 0 := by omega
  simp only [binOp, Op.intDiv]
  rw [if_neg (by simp), e, if_neg h0]
theorem dsize (C : List Nat) (h : C.length = 24) : (Tryd.prog.info? 113).map (·.size) = some (ncells C).toArray.size := by rw [List.size_toArray, ncells_len, h]; kernel_rfl
abbrev z24 : List Value := [.int .i64 0, .int .i64 0, .int .i64 0, .int .i64 0, .int .i64 0, .int .i64 0, .int .i64 0, .int .i64 0, .int .i64 0, .int .i64 0, .int .i64 0, .int .i64 0, .int .i64 0, .int .i64 0, .int .i64 0, .int .i64 0, .int .i64 0, .int .i64 0, .int .i64 0, .int .i64 0, .int .i64 0, .int .i64 0, .int .i64 0, .int .i64 0]
theorem dold (C : List Nat) (h : C.length = 24) : z24.toArray.size = (ncells C).toArray.size := by rw [List.size_toArray, List.size_toArray, ncells_len, h]; rfl
theorem ncells_one (s : List Nat) : (ncells s).toArray.all (·.oneCell') = true := all_oneCell_toArray (by intro v hv; obtain ⟨x, _, rfl⟩ := List.mem_map.1 hv; rfl)
set_option maxRecDepth 100000 in
set_option maxHeartbeats 2000000 in
theorem carried_any (l : List Nat) (hl : l.length = 24) (hs : ∀ i, i < 24 → l.getD i 0 < 1152921504606846976) (w : World) :
    Calls Tryd.prog 85 #[.agg (ncells l).toArray] w fun e w' => e = .returned (.agg (ncells (dg (VN l))).toArray) ∧ Fr [] w w' := by
  obtain ⟨g, hg⟩ : ∃ g, g = w.heap.size := ⟨_, rfl⟩
  obtain ⟨z, hz⟩ : ∃ z, z = w.heap.size + 1 := ⟨_, rfl⟩
  obtain ⟨W, hW⟩ : ∃ W, W = (w.alloc (.cells (ncells l).toArray 113)).alloc (.cells z24.toArray 113) := ⟨_, rfl⟩
  have N0 : At W g 113 (ncells l) := by
    have := (At.alloc_new w 113 (ncells l).toArray).alloc (.cells z24.toArray 113)
    rw [← hW, ← hg, List.toList_toArray] at this
    exact this
  have Z0 : At W z 113 z24 := by
    have := At.alloc_new (w.alloc (.cells (ncells l).toArray 113)) 113 z24.toArray
    rw [← hW, show (w.alloc (.cells (ncells l).toArray 113)).heap.size = z by rw [hz]; simp, List.toList_toArray] at this
    exact this
  have F0 : Fr [] w W := by rw [hW]; exact (Fr.alloc _ _ _).trans (Fr.alloc _ _ _)
  have hgz : z ≠ g ∧ w.heap.size ≤ g ∧ w.heap.size ≤ z := by omega
  go_enter Tryd.func85, Tryd.ntmps85
  go_wp2_with fail
  change Code.wp _ _ _ _ ((w.alloc (.cells (ncells l).toArray 113)).alloc (.cells z24.toArray 113))
  rw [← hW, ← hz, ← hg]
  clear hW hz hg
  have HG := Lib.hid hgz
  clear hgz
  go_loopw [3, 4] (fun v3 v4 wr => ∃ i c : Nat, i ≤ 24 ∧ v4 = .int .i64 i ∧ v3 = .int .i64 c ∧ c = VN (l.take i) / 65536 ^ i ∧ c < 1152921504606846976 ∧ At wr g 113 (ncells (carriedUp l i)) ∧ At wr z 113 z24 ∧ Fr [] w wr) (fun _ v _ => 24 - (RowKit.intOf v).toNat)
  case atStart => exact ⟨0, 0, by omega, rfl, rfl, by simp [VN], by omega, by simpa [carriedUp] using N0, Z0, F0⟩
  case round =>
    clear N0 Z0 F0
    obtain ⟨i, c, hi, rfl, rfl, hc, hcl, hA, hZ, hF⟩ := hrel
    have hul := carriedUp_len l hl i hi
    by_cases hli : i < 24
    · have l1 : (i : Int) < 24 := by omega
      have hd := hs i hli
      obtain ⟨d, hdd⟩ : ∃ d, d = l.getD i 0 := ⟨_, rfl⟩
      obtain ⟨x, hx⟩ : ∃ x, x = d + c := ⟨_, rfl⟩
      obtain ⟨st1, st2⟩ := carried_step l hl i hli c x hc (by rw [hx, hdd])
      have c0 := hA.cell i
      have z0 := hA.frozen i
      rw [ncells_get _ _ (by omega), carriedUp_get l hl i hli, ← hdd] at c0
      have w1 : IntKind.i64.wrap ((d : Int) + c) = (x : Int) := by rw [show (d : Int) + c = (x : Int) by omega]; exact IntWalk.i64_in _ (by omega)
      have w2 : IntKind.i64.wrap ((i : Int) + 1) = ((i + 1 : Nat) : Int) := by rw [IntWalk.i64_in _ (by omega)]; omega
      have r1 : ∀ t, binOp .rem t (.int .i64 (x : Int)) (.int .i64 65536) = pure (.int .i64 ((x % 65536 : Nat) : Int)) := fun t => remJ x 65536 (by omega) t
      have r2 : ∀ t, binOp .quo t (.int .i64 (x : Int)) (.int .i64 65536) = pure (.int .i64 ((x / 65536 : Nat) : Int)) := fun t => quoJ x 65536 (by omega) (by omega) t
      have hq : x / 65536 < 1152921504606846976 := by omega
      obtain ⟨y, hy⟩ : ∃ y, y = x % 65536 := ⟨_, rfl⟩
      obtain ⟨u, hu⟩ : ∃ u, u = x / 65536 := ⟨_, rfl⟩
      rw [← hy] at r1 st1
      rw [← hu] at r2 st2 hq
      have hset := carriedUp_set l hl i hli y st1
      have hA2 := hA.setCell i (.int .i64 (y : Int))
      rw [ncells_set, hset] at hA2
      have hZ2 := hZ.setCell_other (a := ⟨g, i, none⟩) (by simpa using HG.out.1) (.int .i64 (y : Int))
      have F2 := hF.new (S := [g]) (Fr.setCell [g] wr ⟨g, i, none⟩ (.int .i64 (y : Int)) (.inl (by simp))) (by simp; exact HG.out.2.1)
      have HH := Lib.hid (And.intro st2 hq)
      clear st1 st2 hq hset hy hu hx hdd hd hc hcl hul hA hZ hF
      go_wp2_with fail
      exact ⟨⟨i + 1, u, by omega, by simp, rfl, HH.out.1, HH.out.2, hA2, hZ2, F2⟩, by simp only [RowKit.intOf]; omega⟩
    · obtain rfl : i = 24 := by omega
      have l1 : ¬ ((24 : Nat) : Int) < 24 := by omega
      rw [carriedUp_end l hl] at hA
      have hsz := dsize (dg (VN l)) (dg_len _)
      have hol := dold (dg (VN l)) (dg_len _)
      have hon := ncells_one (dg (VN l))
      obtain ⟨D, hD⟩ : ∃ D, D = dg (VN l) := ⟨_, rfl⟩
      rw [← hD] at hA hsz hol hon
      have HD := Lib.hid hD
      clear hD
      clear hc hcl hul
      go_wp2_with (first
        | refine wpList_load_row rfl _ _ rfl _ rfl _ _ _ _ hA.out Tryd.underlying113 rfl hsz ?_
        | refine wpList_store_row rfl _ _ _ rfl _ _ rfl rfl _ _ hZ.out hsz hol hon ?_
        | fail)
      have A1 := hZ.setRow (ncells D).toArray
      rw [List.toList_toArray] at A1
      refine ⟨rfl, _, ?_, rfl, hF.new (S := [z]) (Fr.setRow [z] _ _ _ (.inl (by simp))) (by simp; exact HG.out.2.2)⟩
      rw [← HD.out]
      refine results_cell_row (p := 2) (ty := 113) (by rfl) _ _ z 113 _ (0, 0) _ ?_ A1.out Tryd.underlying113 rfl hsz
      simp only [Act.put, List.setIfInBounds_toArray, List.set_cons_zero, List.set_cons_succ, Array.getD_eq_getD_getElem?, List.getElem?_toArray, List.getElem?_cons_succ, List.getElem?_cons_zero, Option.getD_some]
end Go.Proofs.YtichgiecohhmgaaDoor
namespace Go.Proofs.YtichgiecohhmgaaDoor
open Go.RowKit Go.Lib Go.Joins Base
set_option linter.unusedVariables false
set_option linter.unusedSimpArgs false

theorem dgc (V i : Nat) (h : i < 24) : (ncells (dg V))[i]? = some (.int .i64 ((V / 65536 ^ i % 65536 : Nat) : Int)) := by
  rw [ncells_get _ _ (by rw [dg_len]; exact h), dg_getD V i h]
theorem dsz (V : Nat) : (Tryd.prog.info? 113).map (·.size) = some (ncells (dg V)).toArray.size := dsize _ (dg_len V)
theorem dol (V : Nat) : z24.toArray.size = (ncells (dg V)).toArray.size := dold _ (dg_len V)
theorem don (V : Nat) : (ncells (dg V)).toArray.all (·.oneCell') = true := ncells_one _
theorem z24_dg : z24 = ncells (dg 0) := by rw [dg_zero]; rfl
theorem hzNumber : (Tryd.prog.info? 113).map (·.zero) = some (some (.agg z24.toArray)) := by kernel_rfl

set_option maxRecDepth 100000 in
set_option maxHeartbeats 2000000 in
theorem add_any (V1 V2 : Nat) (w : World) :
    Calls Tryd.prog 73 #[.agg (ncells (dg V1)).toArray, .agg (ncells (dg V2)).toArray] w fun e w' => e = .returned (.agg (ncells (dg (V1 + V2))).toArray) ∧ Fr [] w w' := by
  obtain ⟨g, hg⟩ : ∃ g, g = w.heap.size := ⟨_, rfl⟩
  obtain ⟨g2, hg2⟩ : ∃ g2, g2 = w.heap.size + 1 := ⟨_, rfl⟩
  obtain ⟨z, hz⟩ : ∃ z, z = w.heap.size + 2 := ⟨_, rfl⟩
  obtain ⟨T, hT⟩ : ∃ T : TypeId, T = 113 := ⟨_, rfl⟩
  obtain ⟨W, hW⟩ : ∃ W, W = ((w.alloc (.cells (ncells (dg V1)).toArray 113)).alloc (.cells (ncells (dg V2)).toArray 113)).alloc (.cells z24.toArray 113) := ⟨_, rfl⟩
  have N0 : At W g 113 (ncells (dg V1)) := by
    have := ((At.alloc_new w 113 (ncells (dg V1)).toArray).alloc (.cells (ncells (dg V2)).toArray 113)).alloc (.cells z24.toArray 113)
    rw [← hW, ← hg, List.toList_toArray] at this
    exact this
  have M0 : At W g2 113 (ncells (dg V2)) := by
    have := (At.alloc_new (w.alloc (.cells (ncells (dg V1)).toArray 113)) 113 (ncells (dg V2)).toArray).alloc (.cells z24.toArray 113)
    rw [← hW, List.toList_toArray] at this
    rw [show g2 = (w.alloc (.cells (ncells (dg V1)).toArray 113)).heap.size by rw [hg2]; simp]
    exact this
  have Z0 : At W z 113 z24 := by
    have := At.alloc_new ((w.alloc (.cells (ncells (dg V1)).toArray 113)).alloc (.cells (ncells (dg V2)).toArray 113)) 113 z24.toArray
    rw [← hW, List.toList_toArray] at this
    rw [show z = ((w.alloc (.cells (ncells (dg V1)).toArray 113)).alloc (.cells (ncells (dg V2)).toArray 113)).heap.size by rw [hz]; simp]
    exact this
  have F0 : Fr [] w W := by rw [hW]; exact ((Fr.alloc _ _ _).trans (Fr.alloc _ _ _)).trans (Fr.alloc _ _ _)
  have hgz : z ≠ g ∧ g2 ≠ g ∧ w.heap.size ≤ g ∧ w.heap.size ≤ g2 ∧ w.heap.size ≤ z := by omega
  have hsum : dg (VN (sumL V1 V2)) = dg (V1 + V2) := sumL_dg V1 V2
  have hsl : (sumL V1 V2).length = 24 := fl_len _ _
  have hss : ∀ i, i < 24 → (sumL V1 V2).getD i 0 = V1 / 65536 ^ i % 65536 + V2 / 65536 ^ i % 65536 := fun i h => fl_get _ _ i h
  go_enter Tryd.func73, Tryd.ntmps73
  go_wp2_with fail
  change Code.wp _ _ _ _ (((w.alloc (.cells (ncells (dg V1)).toArray 113)).alloc (.cells (ncells (dg V2)).toArray 113)).alloc (.cells z24.toArray 113))
  rw [← hW, ← hz, ← hg2, ← hg]
  clear hW hz hg hg2 hT
  have HG := Lib.hid hgz
  have HS := Lib.hid hsum
  clear hgz hsum
  generalize sumL V1 V2 = S at hsl hss HS ⊢
  go_loopw [5] (fun v wr => ∃ i : Nat, i ≤ 24 ∧ v = .int .i64 i ∧ At wr g 113 (ncells (upTo (dg V1) S i)) ∧ At wr g2 113 (ncells (dg V2)) ∧ At wr z 113 z24 ∧ Fr [] w wr) (fun v _ => 24 - (RowKit.intOf v).toNat)
  case atStart => exact ⟨0, by omega, rfl, by rw [upTo_zero]; exact N0, M0, Z0, F0⟩
  case round =>
    clear N0 M0 Z0 F0
    obtain ⟨i, hi, rfl, hA, hB, hZ, hF⟩ := hrel
    by_cases hli : i < 24
    · have l1 : (i : Int) < 24 := by omega
      have hul := upTo_len (dg V1) S 24 (dg_len _) hsl i hi
      have hd := hss i hli
      have hdd := dg_getD V1 i hli
      have c0 := hA.cell i
      have a0 := hA.frozen i
      have b0 := hB.frozen i
      have d0 := hB.cell i
      rw [ncells_get _ _ (by omega), upTo_get (dg V1) S 24 (dg_len _) hsl i i (Nat.le_refl _) hli, hdd] at c0
      rw [dgc V2 i hli] at d0
      have q1 : V1 / 65536 ^ i % 65536 < 65536 := Nat.mod_lt _ (by omega)
      have q2 : V2 / 65536 ^ i % 65536 < 65536 := Nat.mod_lt _ (by omega)
      generalize V1 / 65536 ^ i % 65536 = x at c0 hd q1
      generalize V2 / 65536 ^ i % 65536 = y at d0 hd q2
      have w1 : IntKind.i64.wrap ((x : Int) + y) = ((x + y : Nat) : Int) := by rw [IntWalk.i64_in _ (by omega)]; omega
      have w2 : IntKind.i64.wrap ((i : Int) + 1) = ((i + 1 : Nat) : Int) := by rw [IntWalk.i64_in _ (by omega)]; omega
      have hset := upTo_set (dg V1) S 24 (dg_len _) hsl i hli _ hd
      have hA2 := hA.setCell i (.int .i64 ((x + y : Nat) : Int))
      rw [ncells_set, hset] at hA2
      have hB2 := hB.setCell_other (a := ⟨g, i, none⟩) (by simpa using HG.out.2.1) (.int .i64 ((x + y : Nat) : Int))
      have hZ2 := hZ.setCell_other (a := ⟨g, i, none⟩) (by simpa using HG.out.1) (.int .i64 ((x + y : Nat) : Int))
      have F2 := hF.new (S := [g]) (Fr.setCell [g] wr ⟨g, i, none⟩ (.int .i64 ((x + y : Nat) : Int)) (.inl (by simp))) (by simp; exact HG.out.2.2.1)
      clear hset hd hdd hul hA hZ hF hB
      go_wp2_with fail
      go_region
      go_wp2_with fail
      exact ⟨⟨i + 1, by omega, by simp, hA2, hB2, hZ2, by first | exact F2.trans (Fr.drewN _ _ _) | exact F2.trans (Fr.drew _ _)⟩, by simp only [RowKit.intOf]; omega⟩
    · obtain rfl : i = 24 := by omega
      have l1 : ¬ ((24 : Nat) : Int) < 24 := by omega
      rw [upTo_end (dg V1) S 24 (dg_len _) hsl] at hA
      have hsz := dsize S hsl
      have hsv := dsz (V1 + V2)
      have hol := dol (V1 + V2)
      have hon := don (V1 + V2)
      have hcall := carried_any S hsl (fun i hi => by rw [hss i hi]; have := Nat.mod_lt (V1 / 65536 ^ i) (show 65536 > 0 by omega); have := Nat.mod_lt (V2 / 65536 ^ i) (show 65536 > 0 by omega); omega) wr
      rw [HS.out] at hcall
      clear hss HS
      obtain ⟨D, hD⟩ : ∃ D, D = dg (V1 + V2) := ⟨_, rfl⟩
      rw [← hD] at hcall hsv hol hon
      have HD := Lib.hid hD
      clear hD
      go_wp2_with (first
        | refine wpList_load_row rfl _ _ rfl _ rfl _ _ _ _ hA.out Tryd.underlying113 rfl hsz ?_
        | (go_at_call 85; refine hcall.mono ?_; clear hcall; rintro e wc ⟨rfl, hFc⟩; have hZc := hFc.keep hZ (by simp))
        | refine wpList_store_row rfl _ _ _ rfl _ _ rfl rfl _ _ hZc.out hsv hol hon ?_
        | fail)
      have A1 := hZc.setRow (ncells D).toArray
      rw [List.toList_toArray] at A1
      refine ⟨rfl, _, ?_, rfl, (hF.trans hFc).new (S := [z]) (Fr.setRow [z] _ _ _ (.inl (by simp))) (by simp; exact HG.out.2.2.2.2)⟩
      rw [← HD.out]
      refine results_cell_row (p := 4) (ty := 113) (by rfl) _ _ z 113 _ (0, 0) _ ?_ A1.out Tryd.underlying113 rfl hsv
      simp only [Act.put, List.setIfInBounds_toArray, List.set_cons_zero, List.set_cons_succ, Array.getD_eq_getD_getElem?, List.getElem?_toArray, List.getElem?_cons_succ, List.getElem?_cons_zero, Option.getD_some]

set_option maxRecDepth 100000 in
set_option maxHeartbeats 2000000 in
theorem five_any (V1 : Nat) (w : World) :
    Calls Tryd.prog 84 #[.agg (ncells (dg V1)).toArray] w fun e w' => e = .returned (.agg (ncells (dg (5 * V1))).toArray) ∧ Fr [] w w' := by
  obtain ⟨g, hg⟩ : ∃ g, g = w.heap.size := ⟨_, rfl⟩
  obtain ⟨z, hz⟩ : ∃ z, z = w.heap.size + 1 := ⟨_, rfl⟩
  obtain ⟨W, hW⟩ : ∃ W, W = (w.alloc (.cells (ncells (dg V1)).toArray 113)).alloc (.cells z24.toArray 113) := ⟨_, rfl⟩
  have N0 : At W g 113 (ncells (dg V1)) := by
    have := (At.alloc_new w 113 (ncells (dg V1)).toArray).alloc (.cells z24.toArray 113)
    rw [← hW, ← hg, List.toList_toArray] at this
    exact this
  have Z0 : At W z 113 z24 := by
    have := At.alloc_new (w.alloc (.cells (ncells (dg V1)).toArray 113)) 113 z24.toArray
    rw [← hW, show (w.alloc (.cells (ncells (dg V1)).toArray 113)).heap.size = z by rw [hz]; simp, List.toList_toArray] at this
    exact this
  have F0 : Fr [] w W := by rw [hW]; exact (Fr.alloc _ _ _).trans (Fr.alloc _ _ _)
  have hgz : z ≠ g ∧ w.heap.size ≤ g ∧ w.heap.size ≤ z := by omega
  have hsum : dg (VN (fiveL V1)) = dg (5 * V1) := fiveL_dg V1
  have hsl : (fiveL V1).length = 24 := fl_len _ _
  have hss : ∀ i, i < 24 → (fiveL V1).getD i 0 = 5 * (V1 / 65536 ^ i % 65536) := fun i h => fl_get _ _ i h
  go_enter Tryd.func84, Tryd.ntmps84
  go_wp2_with fail
  change Code.wp _ _ _ _ ((w.alloc (.cells (ncells (dg V1)).toArray 113)).alloc (.cells z24.toArray 113))
  rw [← hW, ← hz, ← hg]
  clear hW hz hg
  have HG := Lib.hid hgz
  have HS := Lib.hid hsum
  clear hgz hsum
  generalize fiveL V1 = S at hsl hss HS ⊢
  go_loopw [3] (fun v wr => ∃ i : Nat, i ≤ 24 ∧ v = .int .i64 i ∧ At wr g 113 (ncells (upTo (dg V1) S i)) ∧ At wr z 113 z24 ∧ Fr [] w wr) (fun v _ => 24 - (RowKit.intOf v).toNat)
  case atStart => exact ⟨0, by omega, rfl, by rw [upTo_zero]; exact N0, Z0, F0⟩
  case round =>
    clear N0 Z0 F0
    obtain ⟨i, hi, rfl, hA, hZ, hF⟩ := hrel
    by_cases hli : i < 24
    · have l1 : (i : Int) < 24 := by omega
      have hul := upTo_len (dg V1) S 24 (dg_len _) hsl i hi
      have hd := hss i hli
      have hdd := dg_getD V1 i hli
      have c0 := hA.cell i
      have a0 := hA.frozen i
      rw [ncells_get _ _ (by omega), upTo_get (dg V1) S 24 (dg_len _) hsl i i (Nat.le_refl _) hli, hdd] at c0
      have q1 : V1 / 65536 ^ i % 65536 < 65536 := Nat.mod_lt _ (by omega)
      generalize V1 / 65536 ^ i % 65536 = x at c0 hd q1
      have w1 : IntKind.i64.wrap ((x : Int) * 5) = ((5 * x : Nat) : Int) := by rw [IntWalk.i64_in _ (by omega)]; omega
      have w2 : IntKind.i64.wrap ((i : Int) + 1) = ((i + 1 : Nat) : Int) := by rw [IntWalk.i64_in _ (by omega)]; omega
      have hset := upTo_set (dg V1) S 24 (dg_len _) hsl i hli _ hd
      have hA2 := hA.setCell i (.int .i64 ((5 * x : Nat) : Int))
      rw [ncells_set, hset] at hA2
      have hZ2 := hZ.setCell_other (a := ⟨g, i, none⟩) (by simpa using HG.out.1) (.int .i64 ((5 * x : Nat) : Int))
      have F2 := hF.new (S := [g]) (Fr.setCell [g] wr ⟨g, i, none⟩ (.int .i64 ((5 * x : Nat) : Int)) (.inl (by simp))) (by simp; exact HG.out.2.1)
      clear hset hd hdd hul hA hZ hF
      go_wp2_with fail
      exact ⟨⟨i + 1, by omega, by simp, hA2, hZ2, F2⟩, by simp only [RowKit.intOf]; omega⟩
    · obtain rfl : i = 24 := by omega
      have l1 : ¬ ((24 : Nat) : Int) < 24 := by omega
      rw [upTo_end (dg V1) S 24 (dg_len _) hsl] at hA
      have hsz := dsize S hsl
      have hsv := dsz (5 * V1)
      have hol := dol (5 * V1)
      have hon := don (5 * V1)
      have hcall := carried_any S hsl (fun i hi => by rw [hss i hi]; have := Nat.mod_lt (V1 / 65536 ^ i) (show 65536 > 0 by omega); omega) wr
      rw [HS.out] at hcall
      clear hss HS
      obtain ⟨D, hD⟩ : ∃ D, D = dg (5 * V1) := ⟨_, rfl⟩
      rw [← hD] at hcall hsv hol hon
      have HD := Lib.hid hD
      clear hD
      go_wp2_with (first
        | refine wpList_load_row rfl _ _ rfl _ rfl _ _ _ _ hA.out Tryd.underlying113 rfl hsz ?_
        | (go_at_call 85; refine hcall.mono ?_; clear hcall; rintro e wc ⟨rfl, hFc⟩; have hZc := hFc.keep hZ (by simp))
        | refine wpList_store_row rfl _ _ _ rfl _ _ rfl rfl _ _ hZc.out hsv hol hon ?_
        | fail)
      have A1 := hZc.setRow (ncells D).toArray
      rw [List.toList_toArray] at A1
      refine ⟨rfl, _, ?_, rfl, (hF.trans hFc).new (S := [z]) (Fr.setRow [z] _ _ _ (.inl (by simp))) (by simp; exact HG.out.2.2)⟩
      rw [← HD.out]
      refine results_cell_row (p := 2) (ty := 113) (by rfl) _ _ z 113 _ (0, 0) _ ?_ A1.out Tryd.underlying113 rfl hsv
      simp only [Act.put, List.setIfInBounds_toArray, List.set_cons_zero, List.set_cons_succ, Array.getD_eq_getD_getElem?, List.getElem?_toArray, List.getElem?_cons_succ, List.getElem?_cons_zero, Option.getD_some]
set_option maxRecDepth 100000 in
set_option maxHeartbeats 2000000 in
theorem zero_any (V1 : Nat) (hV : V1 < 65536 ^ 24) (w : World) :
    Calls Tryd.prog 83 #[.agg (ncells (dg V1)).toArray] w fun e w' => e = .returned (.bool (decide (V1 = 0))) ∧ Fr [] w w' := by
  obtain ⟨g, hg⟩ : ∃ g, g = w.heap.size := ⟨_, rfl⟩
  obtain ⟨W, hW⟩ : ∃ W, W = w.alloc (.cells (ncells (dg V1)).toArray 113) := ⟨_, rfl⟩
  have N0 : At W g 113 (ncells (dg V1)) := by
    have := At.alloc_new w 113 (ncells (dg V1)).toArray
    rw [← hW, ← hg, List.toList_toArray] at this
    exact this
  have F0 : Fr [] w W := by rw [hW]; exact Fr.alloc _ _ _
  have HV := Lib.hid hV
  clear hV
  go_enter Tryd.func83, Tryd.ntmps83
  go_wp2_with fail
  change Code.wp _ _ _ _ (w.alloc (.cells (ncells (dg V1)).toArray 113))
  rw [← hW, ← hg]
  clear hW hg
  go_loopw [3] (fun v wr => ∃ i : Nat, i ≤ 24 ∧ v = .int .i64 i ∧ (∀ j, j < i → V1 / 65536 ^ j % 65536 = 0) ∧ At wr g 113 (ncells (dg V1)) ∧ Fr [] w wr) (fun v _ => 24 - (RowKit.intOf v).toNat)
  case atStart => exact ⟨0, by omega, rfl, by intro j hj; omega, N0, F0⟩
  case round =>
    clear N0 F0
    obtain ⟨i, hi, rfl, hz, hA, hF⟩ := hrel
    by_cases hli : i < 24
    · have l1 : (i : Int) < 24 := by omega
      have c0 := hA.cell i
      rw [dgc V1 i hli] at c0
      have HZ := Lib.hid hz
      clear hz
      obtain ⟨x, hx⟩ : ∃ x, x = V1 / 65536 ^ i % 65536 := ⟨_, rfl⟩
      rw [← hx] at c0
      have HX := Lib.hid hx
      clear hx
      have w2 : IntKind.i64.wrap ((i : Int) + 1) = ((i + 1 : Nat) : Int) := by rw [IntWalk.i64_in _ (by omega)]; omega
      by_cases h0 : x = 0
      · subst h0
        go_wp2_with fail
        refine ⟨⟨i + 1, by omega, by simp, ?_, hA, hF⟩, by simp only [RowKit.intOf]; omega⟩
        intro j hj
        rcases Nat.lt_or_ge j i with h | h
        · exact HZ.out j h
        · rw [show j = i by omega]; exact HX.out.symm
      · have k0 : ¬ (x : Int) = 0 := by omega
        go_wp2_with fail
        go_ret
        refine ⟨?_, hF⟩
        have : ¬ V1 = 0 := by
          intro h
          rw [h] at HX
          have := HX.out
          rw [digit_zero] at this
          exact h0 this
        rw [decide_eq_false this]
        rfl
    · obtain rfl : i = 24 := by omega
      have l1 : ¬ ((24 : Nat) : Int) < 24 := by omega
      have HZ := Lib.hid hz
      clear hz
      go_wp2_with fail
      go_ret
      refine ⟨?_, hF⟩
      rw [decide_eq_true (digits_zero V1 HV.out HZ.out)]
      rfl
end Go.Proofs.YtichgiecohhmgaaDoor
namespace Go.Proofs.YtichgiecohhmgaaDoor
open Go.RowKit Go.Lib Go.Joins Base
set_option linter.unusedVariables false
set_option linter.unusedSimpArgs false

theorem exec_loadN {P : Program} {o : Oper} {ev : Operand → Value} {ty : TypeId} {x : Operand} {a : Addr} {v : Value} {w : World} (ho : o.op = .load ty x) (hx : ev x = .pointer (some a)) (h : (loadVar ty a).run P w = .ok v w) :
    (execOp ev o).run P w = .ok (.value v) w := by
  unfold execOp
  simp only [ho, hx, Instr.loadAt, Instr.sureAddr, Sem.run_bind, Sem.run_pure, Result.andThen_ok, h]
theorem num_run {w : World} {g : Nat} {l : List Nat} (hl : l.length = 24) (h : At w g 113 (ncells l)) : (loadVar 113 ⟨g, 0, none⟩).run Tryd.prog w = .ok (.agg (ncells l).toArray) w := by
  refine run_loadVar_mid w g 0 _ _ _ (fun j v hj => by rw [Nat.zero_add, h.cell]; exact hj) Tryd.underlying113 rfl ?_
  rw [ncells_len, hl]; kernel_rfl
theorem At.drewN' {w : World} {g : Nat} {T : TypeId} {l : List Value} (h : At w g T l) : At w.drew g T l := (Fr.drew [] w).keep h (by simp)

set_option maxRecDepth 100000 in
set_option maxHeartbeats 4000000 in
theorem times_any (V1 V2 : Nat) (h2 : V2 < 65536 ^ 9) (h1 : V1 < 65536 ^ 9) (w : World) :
    Calls Tryd.prog 72 #[.agg (ncells (dg V1)).toArray, .agg (ncells (dg V2)).toArray] w fun e w' => e = .returned (.agg (ncells (dg (V1 * V2))).toArray) ∧ Fr [] w w' := by
  obtain ⟨g, hg⟩ : ∃ g, g = w.heap.size := ⟨_, rfl⟩
  obtain ⟨g2, hg2⟩ : ∃ g2, g2 = w.heap.size + 1 := ⟨_, rfl⟩
  obtain ⟨z, hz⟩ : ∃ z, z = w.heap.size + 2 := ⟨_, rfl⟩
  obtain ⟨n, hn⟩ : ∃ n, n = w.heap.size + 3 := ⟨_, rfl⟩
  obtain ⟨W, hW⟩ : ∃ W, W = (((w.alloc (.cells (ncells (dg V1)).toArray 113)).alloc (.cells (ncells (dg V2)).toArray 113)).alloc (.cells z24.toArray 113)).alloc (.cells z24.toArray 113) := ⟨_, rfl⟩
  have N0 : At W g 113 (ncells (dg V1)) := by
    have := (((At.alloc_new w 113 (ncells (dg V1)).toArray).alloc (.cells (ncells (dg V2)).toArray 113)).alloc (.cells z24.toArray 113)).alloc (.cells z24.toArray 113)
    rw [← hW, ← hg, List.toList_toArray] at this
    exact this
  have M0 : At W g2 113 (ncells (dg V2)) := by
    have := ((At.alloc_new (w.alloc (.cells (ncells (dg V1)).toArray 113)) 113 (ncells (dg V2)).toArray).alloc (.cells z24.toArray 113)).alloc (.cells z24.toArray 113)
    rw [← hW, List.toList_toArray] at this
    rw [show g2 = (w.alloc (.cells (ncells (dg V1)).toArray 113)).heap.size by rw [hg2]; simp]
    exact this
  have Z0 : At W z 113 z24 := by
    have := (At.alloc_new ((w.alloc (.cells (ncells (dg V1)).toArray 113)).alloc (.cells (ncells (dg V2)).toArray 113)) 113 z24.toArray).alloc (.cells z24.toArray 113)
    rw [← hW, List.toList_toArray] at this
    rw [show z = ((w.alloc (.cells (ncells (dg V1)).toArray 113)).alloc (.cells (ncells (dg V2)).toArray 113)).heap.size by rw [hz]; simp]
    exact this
  have P0 : At W n 113 (ncells (dg (V1 % 65536 ^ 0 * V2))) := by
    have := At.alloc_new (((w.alloc (.cells (ncells (dg V1)).toArray 113)).alloc (.cells (ncells (dg V2)).toArray 113)).alloc (.cells z24.toArray 113)) 113 z24.toArray
    rw [← hW, List.toList_toArray] at this
    rw [Nat.pow_zero, Nat.mod_one, Nat.zero_mul, ← z24_dg, show n = (((w.alloc (.cells (ncells (dg V1)).toArray 113)).alloc (.cells (ncells (dg V2)).toArray 113)).alloc (.cells z24.toArray 113)).heap.size by rw [hn]; simp]
    exact this
  have F0 : Fr [] w W := by rw [hW]; exact (((Fr.alloc _ _ _).trans (Fr.alloc _ _ _)).trans (Fr.alloc _ _ _)).trans (Fr.alloc _ _ _)
  have hgz : (w.heap.size ≤ g ∧ w.heap.size ≤ g2 ∧ w.heap.size ≤ z ∧ w.heap.size ≤ n) ∧ g ≠ n ∧ g2 ≠ n ∧ z ≠ n := by omega
  have HV := Lib.hid (And.intro h1 h2)
  clear h1 h2
  go_enter Tryd.func72, Tryd.ntmps72
  go_wp2_with fail
  change Code.wp _ _ _ _ ((((w.alloc (.cells (ncells (dg V1)).toArray 113)).alloc (.cells (ncells (dg V2)).toArray 113)).alloc (.cells z24.toArray 113)).alloc (.cells z24.toArray 113))
  rw [← hW, ← hn, ← hz, ← hg2, ← hg]
  clear hW hz hg hg2 hn
  have HG := Lib.hid hgz
  clear hgz
  go_loopw [6] (fun v wr => ∃ i : Nat, i ≤ 9 ∧ v = .int .i64 i ∧ At wr g 113 (ncells (dg V1)) ∧ At wr g2 113 (ncells (dg V2)) ∧ At wr z 113 z24 ∧ At wr n 113 (ncells (dg (V1 % 65536 ^ i * V2))) ∧ Fr [] w wr) (fun v _ => 9 - (RowKit.intOf v).toNat)
  case atStart => exact ⟨0, by omega, rfl, N0, M0, Z0, P0, F0⟩
  case round =>
    clear N0 M0 Z0 P0 F0
    obtain ⟨i, hi, rfl, hA, hB, hZ, hP, hF⟩ := hrel
    by_cases hli : i < 9
    · have l1 : (i : Int) < 9 := by omega
      obtain ⟨r, hr⟩ : ∃ r, r = wr.heap.size := ⟨_, rfl⟩
      obtain ⟨W, hW⟩ : ∃ W, W = wr.alloc (.cells z24.toArray 113) := ⟨_, rfl⟩
      obtain ⟨x, hx⟩ : ∃ x, x = V1 / 65536 ^ i % 65536 := ⟨_, rfl⟩
      have hxl : x < 65536 := by rw [hx]; exact Nat.mod_lt _ (by omega)
      have cx := dgc V1 i (by omega)
      rw [← hx] at cx
      have A0 : At W g 113 (ncells (dg V1)) := by rw [hW]; exact hA.alloc _
      have B0 : At W g2 113 (ncells (dg V2)) := by rw [hW]; exact hB.alloc _
      have Z0 : At W z 113 z24 := by rw [hW]; exact hZ.alloc _
      have P0 : At W n 113 (ncells (dg (V1 % 65536 ^ i * V2))) := by rw [hW]; exact hP.alloc _
      have R0 : At W r 113 (ncells (rowL x V2 i 0)) := by
        have := At.alloc_new wr 113 z24.toArray
        rw [← hW, ← hr, List.toList_toArray] at this
        rw [rowL_zero _ _ _ (by omega), ← dg_zero, ← z24_dg]
        exact this
      have F0 : Fr [] w W := by rw [hW]; exact hF.trans (Fr.alloc _ _ _)
      have hrr : w.heap.size ≤ r ∧ r ≠ g ∧ r ≠ g2 ∧ r ≠ z ∧ r ≠ n := by
        have e0 := hF.size
        have e1 := hA.lt
        have e2 := hB.lt
        have e3 := hZ.lt
        have e4 := hP.lt
        omega
      have HR := Lib.hid hrr
      have HX := Lib.hid (And.intro hx hxl)
      clear hA hB hZ hP hF hrr hx hxl
      go_wp2_with fail
      change Code.wp _ _ _ _ (wr.alloc (.cells z24.toArray 113))
      rw [← hW, ← hr]
      clear hW hr
      go_loopw [8] (fun v ws => ∃ j : Nat, j ≤ 9 ∧ v = .int .i64 j ∧ At ws g 113 (ncells (dg V1)) ∧ At ws g2 113 (ncells (dg V2)) ∧ At ws z 113 z24 ∧ At ws n 113 (ncells (dg (V1 % 65536 ^ i * V2))) ∧ At ws r 113 (ncells (rowL x V2 i j)) ∧ Fr [] w ws) (fun v _ => 9 - (RowKit.intOf v).toNat)
      case atStart => exact ⟨0, by omega, rfl, A0, B0, Z0, P0, R0, F0⟩
      case round =>
        clear A0 B0 Z0 P0 R0 F0
        obtain ⟨j, hj, rfl, hA, hB, hZ, hP, hR, hF⟩ := hrel
        by_cases hlj : j < 9
        · have l2 : (j : Int) < 9 := by omega
          have l3 : (i : Int) < 24 := by omega
          have l4 : (j : Int) < 24 := by omega
          have l5 : ((i + j : Nat) : Int) < 24 := by omega
          obtain ⟨y, hy⟩ : ∃ y, y = V2 / 65536 ^ j % 65536 := ⟨_, rfl⟩
          have hyl : y < 65536 := by rw [hy]; exact Nat.mod_lt _ (by omega)
          have hset := rowL_set x V2 i j (by omega)
          rw [← hy] at hset
          have hml : x * y ≤ 65536 * 65536 := Nat.mul_le_mul (by have := HX.out.2; omega) (by omega)
          obtain ⟨m, hm⟩ : ∃ m, m = x * y := ⟨_, rfl⟩
          rw [← hm] at hset hml
          have c0 := hA.cell i
          have a0 := hA.frozen i
          rw [cx] at c0
          have c1 := hB.cell j
          have a1 := hB.frozen j
          rw [dgc V2 j (by omega), ← hy] at c1
          have a2 := hR.frozen (i + j)
          have c2 := hR.cell (i + j)
          rw [ncells_get _ _ (by rw [rowL_len _ _ _ _ (by omega)]; omega)] at c2
          generalize (rowL x V2 i j).getD (i + j) 0 = q at c2
          have w1 : IntKind.i64.wrap ((x : Int) * y) = (m : Int) := by
            rw [← Int.natCast_mul, ← hm]; exact IntWalk.i64_in _ (by omega)
          have w2 : IntKind.i64.wrap ((j : Int) + 1) = ((j + 1 : Nat) : Int) := by rw [IntWalk.i64_in _ (by omega)]; omega
          have w3 : IntKind.i64.wrap ((i : Int) + j) = ((i + j : Nat) : Int) := by rw [IntWalk.i64_in _ (by omega)]; omega
          have hR2 := hR.setCell (i + j) (.int .i64 (m : Int))
          rw [ncells_set, hset] at hR2
          have hA2 := hA.setCell_other (a := ⟨r, i + j, none⟩) (by simpa using Ne.symm HR.out.2.1) (.int .i64 (m : Int))
          have hB2 := hB.setCell_other (a := ⟨r, i + j, none⟩) (by simpa using Ne.symm HR.out.2.2.1) (.int .i64 (m : Int))
          have hZ2 := hZ.setCell_other (a := ⟨r, i + j, none⟩) (by simpa using Ne.symm HR.out.2.2.2.1) (.int .i64 (m : Int))
          have hP2 := hP.setCell_other (a := ⟨r, i + j, none⟩) (by simpa using Ne.symm HR.out.2.2.2.2) (.int .i64 (m : Int))
          have F2 := hF.new (S := [r]) (Fr.setCell [r] wr ⟨r, i + j, none⟩ (.int .i64 (m : Int)) (.inl (by simp))) (by simp; exact HR.out.1)
          clear hset hm hml hy hyl hA hB hZ hP hR hF
          go_wp2_with fail
          go_region
          go_wp2_with fail
          exact ⟨⟨j + 1, by omega, by simp, hA2, hB2, hZ2, hP2, hR2, by first | exact F2.trans (Fr.drewN _ _ _) | exact F2.trans (Fr.drew _ _)⟩, by simp only [RowKit.intOf]; omega⟩
        · obtain rfl : j = 9 := by omega
          have l2 : ¬ ((9 : Nat) : Int) < 9 := by omega
          have hRl := rowL_len x V2 i 9 (by omega)
          have hRv := rowL_val x V2 i 9
          have hRg := fun t h => rowL_get x V2 i 9 t h HX.out.2
          generalize rowL x V2 i 9 = R at hR hRl hRv hRg
          have c1 := fun w => carried_any R hRl hRg w
          rw [hRv, Nat.mod_eq_of_lt HV.out.2] at c1
          have c2 := fun w => add_any (V1 % 65536 ^ i * V2) (65536 ^ i * (x * V2)) w
          rw [HX.out.1, prod_step] at c2
          rw [HX.out.1] at c1
          obtain ⟨A, hAA⟩ : ∃ A, A = dg (V1 % 65536 ^ i * V2) := ⟨_, rfl⟩
          obtain ⟨B, hBB⟩ : ∃ B, B = dg (65536 ^ i * (V1 / 65536 ^ i % 65536 * V2)) := ⟨_, rfl⟩
          obtain ⟨D, hDD⟩ : ∃ D, D = dg (V1 % 65536 ^ (i + 1) * V2) := ⟨_, rfl⟩
          have hal : A.length = 24 := by rw [hAA]; exact dg_len _
          have hdl : D.length = 24 := by rw [hDD]; exact dg_len _
          rw [← hAA] at hP c2
          rw [← hBB] at c1 c2
          rw [← hDD] at c2
          have HD := Lib.hid hDD
          clear hRv hRg hAA hBB hDD
          have w2 : IntKind.i64.wrap ((i : Int) + 1) = ((i + 1 : Nat) : Int) := by rw [IntWalk.i64_in _ (by omega)]; omega
          go_wp2_with fail
          refine wp_region_until (fun w' => (loadVar 113 ⟨r, 0, none⟩).run Tryd.prog w' = .ok (.agg (ncells R).toArray) w' ∧ Fr [n] wr w') (fun w' => (loadVar 113 ⟨n, 0, none⟩).run Tryd.prog w' = .ok (.agg (ncells A).toArray) w') 4 (by rfl) ?_
          have g0 : ∀ w', Fr [n] wr w' → (loadVar 113 ⟨r, 0, none⟩).run Tryd.prog w' = .ok (.agg (ncells R).toArray) w' ∧ Fr [n] wr w' := fun w' f => ⟨num_run hRl (f.keep hR (by simpa using HR.out.2.2.2.2)), f⟩
          have g1 : ∀ w', Fr [] wr w' → (loadVar 113 ⟨n, 0, none⟩).run Tryd.prog w' = .ok (.agg (ncells A).toArray) w' := fun w' f => num_run hal (f.keep hP (by simp))
          refine until_s1 0 (v := .agg (ncells A).toArray) rfl (by kernel_rfl) (fun _ _ _ h => h) (Or.inl ⟨by rfl, fun w' hS => exec_loadN rfl rfl hS.2⟩) (g0 _ (Fr.drew _ _)) (fun _ => g1 _ (Fr.drew _ _)) ?_
          refine until_s0 1 (v := .agg (ncells R).toArray) rfl (by kernel_rfl) (fun _ _ _ h => h) (Or.inl ⟨by rfl, fun w' hS => exec_loadN rfl rfl hS.1⟩) (g0 _ (Fr.drew _ _)) (fun _ => g1 _ (Fr.drew _ _)) ?_
          try simp only [Act.put, List.setIfInBounds_toArray, List.set_cons_zero, List.set_cons_succ]
          refine until_sole 2 rfl (by kernel_rfl) (by rfl) ?_
          intro K' hK
          go_simp
          go_at_call 85
          refine (c1 _).mono ?_
          clear c1
          rintro _ w1 ⟨rfl, f1⟩
          go_wp2_with fail
          have f1 := (Fr.drew [] wr).trans f1
          refine hK _ _ (g0 _ (f1.mono (by simp))) (fun _ => g1 _ f1) ?_
          clear hK
          refine until_sole 3 rfl (by kernel_rfl) (by rfl) ?_
          intro K' hK
          go_simp
          go_at_call 73
          refine (c2 _).mono ?_
          clear c2
          rintro _ w2 ⟨rfl, f2⟩
          go_wp2_with fail
          have f2 := f1.trans f2
          refine hK _ _ (g0 _ (f2.mono (by simp))) (fun _ => g1 _ f2) ?_
          clear hK
          refine until_sole 4 rfl (by kernel_rfl) (by rfl) ?_
          intro K' hK
          have hP2 := f2.keep hP (by simp)
          have hP3 := hP2.setRow (ncells D).toArray
          rw [List.toList_toArray] at hP3
          have f3 := (f2.mono (S' := [n]) (by simp)).trans (Fr.setRow [n] _ n (ncells D).toArray (.inl (by simp)))
          refine wp_store_row _ _ _ rfl _ _ rfl rfl _ _ hP2.out (dsize D hdl) (by rw [List.size_toArray, List.size_toArray, ncells_len, ncells_len, hal, hdl]) (ncells_one D) ?_
          refine hK _ _ (g0 _ f3) (fun h => absurd (h : true = false) (by decide)) ?_
          clear hK
          refine until_done (by kernel_rfl) ?_ _
          have A4 := f3.keep hA (by simpa using HG.out.2.1)
          have B4 := f3.keep hB (by simpa using HG.out.2.2.1)
          have Z4 := f3.keep hZ (by simpa using HG.out.2.2.2)
          have F4 := hF.new f3 (by simp; exact HG.out.1.2.2.2)
          clear hA hB hZ hP hF hR g0 g1 hP2
          go_wp2_with fail
          exact ⟨⟨i + 1, by omega, by simp, A4, B4, Z4, by rw [← HD.out]; exact hP3, F4⟩, by simp only [RowKit.intOf]; omega⟩
    · obtain rfl : i = 9 := by omega
      have l1 : ¬ ((9 : Nat) : Int) < 9 := by omega
      rw [Nat.mod_eq_of_lt HV.out.1] at hP
      have hsv := dsz (V1 * V2)
      have hol := dol (V1 * V2)
      have hon := don (V1 * V2)
      obtain ⟨D, hD⟩ : ∃ D, D = dg (V1 * V2) := ⟨_, rfl⟩
      rw [← hD] at hP hsv hol hon
      have HD := Lib.hid hD
      clear hD
      go_wp2_with (first
        | refine wpList_load_row rfl _ _ rfl _ rfl _ _ _ _ hP.out Tryd.underlying113 rfl hsv ?_
        | refine wpList_store_row rfl _ _ _ rfl _ _ rfl rfl _ _ hZ.out hsv hol hon ?_
        | fail)
      have A1 := hZ.setRow (ncells D).toArray
      rw [List.toList_toArray] at A1
      refine ⟨rfl, _, ?_, rfl, hF.new (S := [z]) (Fr.setRow [z] _ _ _ (.inl (by simp))) (by simp; exact HG.out.1.2.2.1)⟩
      rw [← HD.out]
      refine results_cell_row (p := 4) (ty := 113) (by rfl) _ _ z 113 _ (0, 0) _ ?_ A1.out Tryd.underlying113 rfl hsv
      simp only [Act.put, List.setIfInBounds_toArray, List.set_cons_zero, List.set_cons_succ, Array.getD_eq_getD_getElem?, List.getElem?_toArray, List.getElem?_cons_succ, List.getElem?_cons_zero, Option.getD_some]
end Go.Proofs.YtichgiecohhmgaaDoor
namespace Go.Proofs.YtichgiecohhmgaaDoor
open Go.RowKit Go.Lib Go.Joins Base
set_option linter.unusedVariables false
set_option linter.unusedSimpArgs false

theorem upTo_rest (old new : List Nat) (n : Nat) (ho : old.length = n) (hn : new.length = n) (k : Nat) (hk : k ≤ n) (h : ∀ i, k ≤ i → i < n → old.getD i 0 = new.getD i 0) : upTo old new k = new := by
  unfold upTo
  have e : old.drop k = new.drop k := by
    apply List.ext_getElem?
    intro i
    rw [List.getElem?_drop, List.getElem?_drop]
    rcases Nat.lt_or_ge (k + i) n with hi | hi
    · have := h (k + i) (by omega) hi
      simp only [List.getD, List.getElem?_eq_getElem (show k + i < old.length by omega), List.getElem?_eq_getElem (show k + i < new.length by omega), Option.getD_some] at this
      rw [List.getElem?_eq_getElem (by omega), List.getElem?_eq_getElem (by omega), this]
    · rw [List.getElem?_eq_none (by omega), List.getElem?_eq_none (by omega)]
  rw [e, List.take_append_drop]
theorem dg0 (i : Nat) (h : i < 24) : (dg 0).getD i 0 = 0 := by rw [dg_getD 0 i h, digit_zero]
theorem low_rest (V : Nat) : upTo (dg 0) (dg (V % 1361129467683753853853498429727072845824)) 9 = dg (V % 1361129467683753853853498429727072845824) :=
  upTo_rest _ _ 24 (dg_len _) (dg_len _) 9 (by omega) fun i h1 h2 => by rw [dg0 i h2, dg_getD _ i h2, part_top V i (by omega)]
theorem high_rest (V : Nat) (h : V < 65536 ^ 24) : upTo (dg 0) (dg (V / 1361129467683753853853498429727072845824)) 16 = dg (V / 1361129467683753853853498429727072845824) :=
  upTo_rest _ _ 24 (dg_len _) (dg_len _) 16 (by omega) fun i h1 h2 => by rw [dg0 i h2, dg_getD _ i h2, part_over V h i h1]
theorem results_cc {P : Program} {fn : Func} {p q : Tmp} {t1 t2 : TypeId} (h : fn.results = #[.cell p t1, .cell q t2]) (tmps : Array Value) (w : World) (g1 g2 : Nat) (T1 T2 : TypeId) (c1 c2 : Array Value) (f1 f2 : Nat × Nat) (d1 d2 : TypeDesc)
    (hp : tmps.getD p undef = .pointer (some ⟨g1, 0, none⟩)) (hg1 : w.heap[g1]? = some (.cells c1 T1 f1)) (hu1 : P.underlying t1 = some d1) (hd1 : (match d1 with | .struct _ | .array _ _ => true | _ => false) = true) (hi1 : (P.info? t1).map (·.size) = some c1.size)
    (hq : tmps.getD q undef = .pointer (some ⟨g2, 0, none⟩)) (hg2 : w.heap[g2]? = some (.cells c2 T2 f2)) (hu2 : P.underlying t2 = some d2) (hd2 : (match d2 with | .struct _ | .array _ _ => true | _ => false) = true) (hi2 : (P.info? t2).map (·.size) = some c2.size) :
    (results fn tmps).run P w = .ok (.tuple #[.agg c1, .agg c2]) w := by
  have hp' : tmps[p]?.getD undef = .pointer (some ⟨g1, 0, none⟩) := by simpa using hp
  have hq' : tmps[q]?.getD undef = .pointer (some ⟨g2, 0, none⟩) := by simpa using hq
  simp [results, h, hp', hq', asAddr, run_loadVar_row w g1 T1 t1 c1 f1 d1 hg1 hu1 hd1 hi1, run_loadVar_row w g2 T2 t2 c2 f2 d2 hg2 hu2 hd2 hi2]
theorem high_step (V : Nat) (h : V < 65536 ^ 24) (i : Nat) (h8 : 8 ≤ i) (u : Nat) (hu : u = if i + 1 < 24 then V / 65536 ^ (i + 1) % 65536 % 4 else 0) :
    (dg (V / 1361129467683753853853498429727072845824)).getD (i - 8) 0 = V / 65536 ^ i % 65536 / 4 + u * 16384 ∨ 24 ≤ i := by
  rcases Nat.lt_or_ge i 24 with hi | hi
  · left
    rw [dg_getD _ _ (by omega), part_high, show i - 8 + 8 = i by omega, hu]
    split
    · rfl
    · rw [part_last V h (i + 1) (by omega)]
  · exact .inr hi
end Go.Proofs.YtichgiecohhmgaaDoor
namespace Go.Proofs.YtichgiecohhmgaaDoor
open Go.RowKit Go.Lib Go.Joins Base
set_option linter.unusedVariables false
set_option linter.unusedSimpArgs false
set_option maxRecDepth 100000 in
set_option maxHeartbeats 600000 in
theorem parted_any (V : Nat) (hV : V < 65536 ^ 24) (w : World) :
    Calls Tryd.prog 82 #[.agg (ncells (dg V)).toArray] w fun e w' => e = .returned (.tuple #[.agg (ncells (dg (V % 1361129467683753853853498429727072845824))).toArray, .agg (ncells (dg (V / 1361129467683753853853498429727072845824))).toArray]) ∧ Fr [] w w' := by
  obtain ⟨g, hg⟩ : ∃ g, g = w.heap.size := ⟨_, rfl⟩
  obtain ⟨z1, hz1⟩ : ∃ g, g = w.heap.size + 1 := ⟨_, rfl⟩
  obtain ⟨z2, hz2⟩ : ∃ g, g = w.heap.size + 2 := ⟨_, rfl⟩
  obtain ⟨lo, hlo⟩ : ∃ g, g = w.heap.size + 3 := ⟨_, rfl⟩
  obtain ⟨hi, hhi⟩ : ∃ g, g = w.heap.size + 4 := ⟨_, rfl⟩
  obtain ⟨W, hW⟩ : ∃ W, W = ((((w.alloc (.cells (ncells (dg V)).toArray 113)).alloc (.cells z24.toArray 113)).alloc (.cells z24.toArray 113)).alloc (.cells z24.toArray 113)).alloc (.cells z24.toArray 113) := ⟨_, rfl⟩
  have A0 : At W g 113 (ncells (dg V)) := by
    have := (((((At.alloc_new w 113 (ncells (dg V)).toArray).alloc (.cells z24.toArray 113)).alloc (.cells z24.toArray 113)).alloc (.cells z24.toArray 113)).alloc (.cells z24.toArray 113))
    rw [← hW, List.toList_toArray] at this
    rw [hg]
    exact this
  have A1 : At W z1 113 (ncells (dg 0)) := by
    have := ((((At.alloc_new (w.alloc (.cells (ncells (dg V)).toArray 113)) 113 z24.toArray).alloc (.cells z24.toArray 113)).alloc (.cells z24.toArray 113)).alloc (.cells z24.toArray 113))
    rw [← hW, List.toList_toArray] at this
    rw [← z24_dg, show z1 = (w.alloc (.cells (ncells (dg V)).toArray 113)).heap.size by rw [hz1]; simp]
    exact this
  have A2 : At W z2 113 (ncells (dg 0)) := by
    have := (((At.alloc_new ((w.alloc (.cells (ncells (dg V)).toArray 113)).alloc (.cells z24.toArray 113)) 113 z24.toArray).alloc (.cells z24.toArray 113)).alloc (.cells z24.toArray 113))
    rw [← hW, List.toList_toArray] at this
    rw [← z24_dg, show z2 = ((w.alloc (.cells (ncells (dg V)).toArray 113)).alloc (.cells z24.toArray 113)).heap.size by rw [hz2]; simp]
    exact this
  have A3 : At W lo 113 (ncells (dg 0)) := by
    have := ((At.alloc_new (((w.alloc (.cells (ncells (dg V)).toArray 113)).alloc (.cells z24.toArray 113)).alloc (.cells z24.toArray 113)) 113 z24.toArray).alloc (.cells z24.toArray 113))
    rw [← hW, List.toList_toArray] at this
    rw [← z24_dg, show lo = (((w.alloc (.cells (ncells (dg V)).toArray 113)).alloc (.cells z24.toArray 113)).alloc (.cells z24.toArray 113)).heap.size by rw [hlo]; simp]
    exact this
  have A4 : At W hi 113 (ncells (dg 0)) := by
    have := (At.alloc_new ((((w.alloc (.cells (ncells (dg V)).toArray 113)).alloc (.cells z24.toArray 113)).alloc (.cells z24.toArray 113)).alloc (.cells z24.toArray 113)) 113 z24.toArray)
    rw [← hW, List.toList_toArray] at this
    rw [← z24_dg, show hi = ((((w.alloc (.cells (ncells (dg V)).toArray 113)).alloc (.cells z24.toArray 113)).alloc (.cells z24.toArray 113)).alloc (.cells z24.toArray 113)).heap.size by rw [hhi]; simp]
    exact this
  have F0 : Fr [] w W := by rw [hW]; exact ((((Fr.alloc _ _ _).trans (Fr.alloc _ _ _)).trans (Fr.alloc _ _ _)).trans (Fr.alloc _ _ _)).trans (Fr.alloc _ _ _)
  have hgz : (w.heap.size ≤ z1 ∧ w.heap.size ≤ z2 ∧ w.heap.size ≤ lo ∧ w.heap.size ≤ hi) ∧ (g ≠ lo ∧ z1 ≠ lo ∧ z2 ≠ lo ∧ hi ≠ lo) ∧ (g ≠ hi ∧ z1 ≠ hi ∧ z2 ≠ hi ∧ lo ≠ hi) ∧ z1 ≠ z2 := by omega
  have HV := Lib.hid hV
  clear hV
  obtain ⟨L, hL⟩ : ∃ L, L = dg (V % 1361129467683753853853498429727072845824) := ⟨_, rfl⟩
  obtain ⟨H, hH⟩ : ∃ H, H = dg (V / 1361129467683753853853498429727072845824) := ⟨_, rfl⟩
  have hLl : L.length = 24 := by rw [hL]; exact dg_len _
  have hHl : H.length = 24 := by rw [hH]; exact dg_len _
  rw [← hL, ← hH]
  have HL := Lib.hid hL
  have HH := Lib.hid hH
  clear hL hH
  go_enter Tryd.func82, Tryd.ntmps82
  go_wp2_with fail
  change Code.wp _ _ _ _ (((((w.alloc (.cells (ncells (dg V)).toArray 113)).alloc (.cells z24.toArray 113)).alloc (.cells z24.toArray 113)).alloc (.cells z24.toArray 113)).alloc (.cells z24.toArray 113))
  rw [← hW, ← hhi, ← hlo, ← hz2, ← hz1, ← hg]
  clear hW hg hz1 hz2 hlo hhi
  have HG := Lib.hid hgz
  clear hgz
  go_loopw [6] (fun v wr => ∃ i : Nat, i ≤ 8 ∧ v = .int .i64 i ∧ At wr g 113 (ncells (dg V)) ∧ At wr z1 113 (ncells (dg 0)) ∧ At wr z2 113 (ncells (dg 0)) ∧ At wr lo 113 (ncells (upTo (dg 0) L i)) ∧ At wr hi 113 (ncells (dg 0)) ∧ Fr [] w wr) (fun v _ => 8 - (RowKit.intOf v).toNat)
  case atStart => exact ⟨0, by omega, rfl, A0, A1, A2, by rw [upTo_zero]; exact A3, A4, F0⟩
  case round =>
    clear A0 A1 A2 A3 A4 F0
    obtain ⟨i, hi8, rfl, A0, A1, A2, A3, A4, F0⟩ := hrel
    by_cases hli : i < 8
    · have l1 : (i : Int) < 8 := by omega
      have l2 : (i : Int) < 24 := by omega
      have c0 := A0.cell i
      rw [dgc V i (by omega)] at c0
      have c1 := A3.cell i
      have f1 := A3.frozen i
      rw [ncells_get _ _ (by rw [upTo_len _ _ 24 (dg_len _) hLl _ (by omega)]; omega)] at c1
      generalize (upTo (dg 0) L i).getD i 0 = q at c1
      have hd : L.getD i 0 = V / 65536 ^ i % 65536 := by rw [HL.out, dg_getD _ _ (by omega), part_low V i hli]
      have hset := upTo_set (dg 0) L 24 (dg_len _) hLl i (by omega) _ hd
      generalize V / 65536 ^ i % 65536 = x at c0 hset
      have w2 : IntKind.i64.wrap ((i : Int) + 1) = ((i + 1 : Nat) : Int) := by rw [IntWalk.i64_in _ (by omega)]; omega
      have B3 := A3.setCell i (.int .i64 (x : Int))
      rw [ncells_set, hset] at B3
      have B0 := A0.setCell_other (a := ⟨lo, i, none⟩) (by simpa using HG.out.2.1.1) (.int .i64 (x : Int))
      have B1 := A1.setCell_other (a := ⟨lo, i, none⟩) (by simpa using HG.out.2.1.2.1) (.int .i64 (x : Int))
      have B2 := A2.setCell_other (a := ⟨lo, i, none⟩) (by simpa using HG.out.2.1.2.2.1) (.int .i64 (x : Int))
      have B4 := A4.setCell_other (a := ⟨lo, i, none⟩) (by simpa using HG.out.2.1.2.2.2) (.int .i64 (x : Int))
      have F2 := F0.new (S := [lo]) (Fr.setCell [lo] wr ⟨lo, i, none⟩ (.int .i64 (x : Int)) (.inl (by simp))) (by simp; exact HG.out.1.2.2.1)
      clear hset hd A0 A1 A2 A3 A4 F0
      go_wp2_with fail
      exact ⟨⟨i + 1, by omega, by simp, B0, B1, B2, B3, B4, F2⟩, by simp only [RowKit.intOf]; omega⟩
    · obtain rfl : i = 8 := by omega
      have l1 : ¬ ((8 : Nat) : Int) < 8 := by omega
      have c0 := A0.cell 8
      rw [dgc V 8 (by omega)] at c0
      have c1 := A3.cell 8
      have f1 := A3.frozen 8
      rw [ncells_get _ _ (by rw [upTo_len _ _ 24 (dg_len _) hLl _ (by omega)]; omega)] at c1
      generalize (upTo (dg 0) L 8).getD 8 0 = q at c1
      have hd : L.getD 8 0 = V / 65536 ^ 8 % 65536 % 4 := by rw [HL.out, dg_getD _ _ (by omega), part_mid V]
      have hset := upTo_set (dg 0) L 24 (dg_len _) hLl 8 (by omega) _ hd
      rw [show upTo (dg 0) L 9 = L by rw [HL.out]; exact low_rest V] at hset
      generalize V / 65536 ^ 8 % 65536 = x at c0 hset
      have r1 : ∀ t, binOp .rem t (.int .i64 (x : Int)) (.int .i64 4) = pure (.int .i64 ((x % 4 : Nat) : Int)) := fun t => remJ x 4 (by omega) t
      have B3 := A3.setCell 8 (.int .i64 ((x % 4 : Nat) : Int))
      rw [ncells_set, hset] at B3
      have B0 := A0.setCell_other (a := ⟨lo, 8, none⟩) (by simpa using HG.out.2.1.1) (.int .i64 ((x % 4 : Nat) : Int))
      have B1 := A1.setCell_other (a := ⟨lo, 8, none⟩) (by simpa using HG.out.2.1.2.1) (.int .i64 ((x % 4 : Nat) : Int))
      have B2 := A2.setCell_other (a := ⟨lo, 8, none⟩) (by simpa using HG.out.2.1.2.2.1) (.int .i64 ((x % 4 : Nat) : Int))
      have B4 := A4.setCell_other (a := ⟨lo, 8, none⟩) (by simpa using HG.out.2.1.2.2.2) (.int .i64 ((x % 4 : Nat) : Int))
      have F2 := F0.new (S := [lo]) (Fr.setCell [lo] wr ⟨lo, 8, none⟩ (.int .i64 ((x % 4 : Nat) : Int)) (.inl (by simp))) (by simp; exact HG.out.1.2.2.1)
      clear hset hd A0 A1 A2 A3 A4 F0
      go_wp2_with fail
      go_loopw [7, 8] (fun v7 v8 ws => ∃ i : Nat, 8 ≤ i ∧ i ≤ 24 ∧ v7 = .int .i64 i ∧ At ws g 113 (ncells (dg V)) ∧ At ws z1 113 (ncells (dg 0)) ∧ At ws z2 113 (ncells (dg 0)) ∧ At ws lo 113 (ncells L) ∧ At ws hi 113 (ncells (upTo (dg 0) H (i - 8))) ∧ Fr [] w ws) (fun v _ _ => 24 - (RowKit.intOf v).toNat)
      case atStart => exact ⟨8, by omega, by omega, rfl, B0, B1, B2, B3, by rw [Nat.sub_self, upTo_zero]; exact B4, F2⟩
      case round =>
        clear B0 B1 B2 B3 B4 F2
        obtain ⟨i, h8i, hi24, rfl, A0, A1, A2, A3, A4, F0⟩ := hrel
        by_cases hli : i < 24
        · have l1 : (i : Int) < 24 := by omega
          obtain ⟨k, hk⟩ : ∃ k, k = i - 8 := ⟨_, rfl⟩
          have l4 : (k : Int) < 24 := by omega
          have hks : i + 1 - 8 = k + 1 := by omega
          rw [← hk] at A4
          have c0 := A0.cell i
          rw [dgc V i (by omega)] at c0
          have c1 := A4.cell k
          have f1 := A4.frozen k
          rw [ncells_get _ _ (by rw [upTo_len _ _ 24 (dg_len _) hHl _ (by omega)]; omega)] at c1
          generalize (upTo (dg 0) H k).getD k 0 = q at c1
          have w2 : IntKind.i64.wrap ((i : Int) + 1) = ((i + 1 : Nat) : Int) := by rw [IntWalk.i64_in _ (by omega)]; omega
          have w3 : IntKind.i64.wrap ((i : Int) - 8) = (k : Int) := by rw [IntWalk.i64_in _ (by omega)]; omega
          obtain ⟨u, hu⟩ : ∃ u, u = if i + 1 < 24 then V / 65536 ^ (i + 1) % 65536 % 4 else 0 := ⟨_, rfl⟩
          have hul : u < 4 := by rw [hu]; split <;> omega
          have hd : H.getD k 0 = V / 65536 ^ i % 65536 / 4 + u * 16384 := by
            rcases high_step V HV.out i h8i u hu with h | h
            · rw [hk, HH.out]; exact h
            · omega
          have hset := upTo_set (dg 0) H 24 (dg_len _) hHl k (by omega) _ hd
          have hxl : V / 65536 ^ i % 65536 < 65536 := Nat.mod_lt _ (by omega)
          generalize V / 65536 ^ i % 65536 = x at c0 hset hxl
          have r2 : ∀ t, binOp .quo t (.int .i64 (x : Int)) (.int .i64 4) = pure (.int .i64 ((x / 4 : Nat) : Int)) := fun t => quoJ x 4 (by omega) (by omega) t
          have w4 : IntKind.i64.wrap ((u : Int) * 16384) = ((u * 16384 : Nat) : Int) := by rw [IntWalk.i64_in _ (by omega)]; omega
          have w5 : IntKind.i64.wrap (((x / 4 : Nat) : Int) + ((u * 16384 : Nat) : Int)) = ((x / 4 + u * 16384 : Nat) : Int) := by rw [IntWalk.i64_in _ (by omega)]; omega
          obtain ⟨o, ho⟩ : ∃ o, o = x / 4 + u * 16384 := ⟨_, rfl⟩
          obtain ⟨x4, hx4⟩ : ∃ y, y = x / 4 := ⟨_, rfl⟩
          obtain ⟨u4, hu4⟩ : ∃ y, y = u * 16384 := ⟨_, rfl⟩
          rw [← ho] at hset w5
          rw [← hx4] at r2 w5
          rw [← hu4] at w4 w5
          have B4 := A4.setCell k (.int .i64 (o : Int))
          rw [ncells_set, hset] at B4
          have B0 := A0.setCell_other (a := ⟨hi, k, none⟩) (by simpa using HG.out.2.2.1.1) (.int .i64 (o : Int))
          have B1 := A1.setCell_other (a := ⟨hi, k, none⟩) (by simpa using HG.out.2.2.1.2.1) (.int .i64 (o : Int))
          have B2 := A2.setCell_other (a := ⟨hi, k, none⟩) (by simpa using HG.out.2.2.1.2.2.1) (.int .i64 (o : Int))
          have B3 := A3.setCell_other (a := ⟨hi, k, none⟩) (by simpa using HG.out.2.2.1.2.2.2) (.int .i64 (o : Int))
          have F2 := F0.new (S := [hi]) (Fr.setCell [hi] wr ⟨hi, k, none⟩ (.int .i64 (o : Int)) (.inl (by simp))) (by simp; exact HG.out.1.2.2.2)
          clear hset hd hk
          by_cases h23 : i + 1 < 24
          · have l5 : ((i + 1 : Nat) : Int) < 24 := by omega
            clear ho hx4 hu4 hul hxl
            rw [if_pos h23] at hu
            have c2 := A0.cell (i + 1)
            rw [dgc V (i + 1) h23] at c2
            generalize V / 65536 ^ (i + 1) % 65536 = y at c2 hu
            have r3 : ∀ t, binOp .rem t (.int .i64 (y : Int)) (.int .i64 4) = pure (.int .i64 (u : Int)) := fun t => by rw [hu]; exact remJ y 4 (by omega) t
            clear hu A0 A1 A2 A3 A4 F0
            go_wp2_with fail
            exact ⟨⟨i + 1, by omega, by omega, by simp, B0, B1, B2, B3, by rw [hks]; exact B4, F2⟩, by simp only [RowKit.intOf]; omega⟩
          · have l5 : ¬ ((i : Int) + 1) < 24 := by omega
            have l6 : ((i : Int) + 1 < 24) = False := by simp; omega
            rw [if_neg h23] at hu
            have eo : o = x4 := by omega
            have w6 : IntKind.i64.wrap (x4 : Int) = (x4 : Int) := IntWalk.i64_in _ (by omega)
            subst eo
            clear hu ho hx4 hu4 hul hxl w4 w5
            clear A0 A1 A2 A3 A4 F0
            go_wp2_with fail
            exact ⟨⟨i + 1, by omega, by omega, by simp, B0, B1, B2, B3, by rw [hks]; exact B4, F2⟩, by simp only [RowKit.intOf]; omega⟩
        · obtain rfl : i = 24 := by omega
          have l1 : ¬ ((24 : Nat) : Int) < 24 := by omega
          rw [show upTo (dg 0) H (24 - 8) = H by rw [HH.out]; exact high_rest V HV.out] at A4
          go_wp2_with fail
          refine wp_region_until (fun w' => (loadVar 113 ⟨lo, 0, none⟩).run Tryd.prog w' = .ok (.agg (ncells L).toArray) w' ∧ (loadVar 113 ⟨hi, 0, none⟩).run Tryd.prog w' = .ok (.agg (ncells H).toArray) w' ∧ Fr [z1, z2] wr w') (fun _ => True) 1000 (by rfl) ?_
          have g0 : ∀ w', Fr [z1, z2] wr w' → (loadVar 113 ⟨lo, 0, none⟩).run Tryd.prog w' = .ok (.agg (ncells L).toArray) w' ∧ (loadVar 113 ⟨hi, 0, none⟩).run Tryd.prog w' = .ok (.agg (ncells H).toArray) w' ∧ Fr [z1, z2] wr w' := fun w' f => ⟨num_run hLl (f.keep A3 (by simp; exact ⟨fun h => HG.out.2.1.2.1 h.symm, fun h => HG.out.2.1.2.2.1 h.symm⟩)), num_run hHl (f.keep A4 (by simp; exact ⟨fun h => HG.out.2.2.1.2.1 h.symm, fun h => HG.out.2.2.1.2.2.1 h.symm⟩)), f⟩
          refine until_s0 0 (v := .agg (ncells L).toArray) rfl (by kernel_rfl) (fun _ _ _ h => h) (Or.inl ⟨by rfl, fun w' hS => exec_loadN rfl rfl hS.1⟩) (g0 _ (Fr.drew _ _)) (fun _ => trivial) ?_
          refine until_s0 1 (v := .agg (ncells H).toArray) rfl (by kernel_rfl) (fun _ _ _ h => h) (Or.inl ⟨by rfl, fun w' hS => exec_loadN rfl rfl hS.2.1⟩) (g0 _ (Fr.drew _ _)) (fun _ => trivial) ?_
          try simp only [Act.put, List.setIfInBounds_toArray, List.set_cons_zero, List.set_cons_succ]
          refine until_sole 2 rfl (by kernel_rfl) (by rfl) ?_
          intro K' hK
          have P1 := (Fr.drew [] wr).keep A1 (by simp)
          have P1s := P1.setRow (ncells L).toArray
          rw [List.toList_toArray] at P1s
          have f3 : Fr [z1, z2] wr (wr.drew.setRow z1 (ncells L).toArray) := ((Fr.drew [] wr).mono (S' := [z1, z2]) (by simp)).trans (Fr.setRow [z1, z2] _ z1 (ncells L).toArray (.inl (by simp)))
          have P2 := ((Fr.drew [z1] wr).trans (Fr.setRow [z1] _ z1 (ncells L).toArray (.inl (by simp)))).keep A2 (by simpa using fun h => HG.out.2.2.2 h.symm)
          refine wp_store_row _ _ _ rfl _ _ rfl rfl _ _ P1.out (dsize L hLl) (by rw [List.size_toArray, List.size_toArray, ncells_len, ncells_len, hLl, dg_len]) (ncells_one L) ?_
          refine hK _ _ (g0 _ f3) (fun _ => trivial) ?_
          clear hK
          refine until_sole 3 rfl (by kernel_rfl) (by rfl) ?_
          intro K' hK
          have P2s := P2.setRow (ncells H).toArray
          rw [List.toList_toArray] at P2s
          have f4 := f3.trans (Fr.setRow [z1, z2] _ z2 (ncells H).toArray (.inl (by simp)))
          have P1t := (Fr.setRow [z2] _ z2 (ncells H).toArray (.inl (by simp))).keep P1s (by simpa using HG.out.2.2.2)
          refine wp_store_row _ _ _ rfl _ _ rfl rfl _ _ P2.out (dsize H hHl) (by rw [List.size_toArray, List.size_toArray, ncells_len, ncells_len, hHl, dg_len]) (ncells_one H) ?_
          refine hK _ _ (g0 _ f4) (fun _ => trivial) ?_
          clear hK
          refine until_done (by kernel_rfl) ?_ _
          have F5 := F0.new f4 (by simp; exact ⟨HG.out.1.1, HG.out.1.2.1⟩)
          clear g0 F0 f3 f4 P1 P1s P2 A0 A1 A2 A3 A4
          go_wp2_with fail
          refine ⟨rfl, _, ?_, rfl, F5⟩
          exact results_cc (p := 2) (q := 3) (t1 := 113) (t2 := 113) (by rfl) _ _ z1 z2 113 113 _ _ (0, 0) (0, 0) _ _ rfl P1t.out Tryd.underlying113 rfl (dsize L hLl) rfl P2s.out Tryd.underlying113 rfl (dsize H hHl)
end Go.Proofs.YtichgiecohhmgaaDoor
namespace Go.Proofs.YtichgiecohhmgaaDoor
open Go.RowKit Go.Lib Go.Joins Base
set_option linter.unusedVariables false
set_option linter.unusedSimpArgs false

/-- The number that a row of the memory holds. -/
def numAt (w : World) (g : Nat) : Nat := match w.heap[g]? with
  | some (.cells cs _ _) => VN (cs.toList.map fun v => (RowKit.intOf v).toNat)
  | _ => 0
theorem numAt_dg {w : World} {g V : Nat} (hV : V < 65536 ^ 24) (h : At w g 113 (ncells (dg V))) : numAt w g = V := by
  unfold numAt
  rw [h.out]
  show VN ((ncells (dg V)).toArray.toList.map _) = V
  rw [List.toList_toArray]
  have e : (ncells (dg V)).map (fun v => (RowKit.intOf v).toNat) = dg V := by
    simp [ncells, RowKit.intOf, Function.comp_def]
  rw [e, VN_dg V hV]
abbrev k5 : List Value := [.int .i64 5, .int .i64 0, .int .i64 0, .int .i64 0, .int .i64 0, .int .i64 0, .int .i64 0, .int .i64 0, .int .i64 0, .int .i64 0, .int .i64 0, .int .i64 0, .int .i64 0, .int .i64 0, .int .i64 0, .int .i64 0, .int .i64 0, .int .i64 0, .int .i64 0, .int .i64 0, .int .i64 0, .int .i64 0, .int .i64 0, .int .i64 0]
theorem k5_dg : k5 = ncells (dg 5) := by
  have : dg 5 = 5 :: List.replicate 23 0 := by decide
  rw [this]; rfl
theorem cells5 : (ncells (dg 0)).set 0 (.int .i64 5) = ncells (dg 5) := by
  have : dg 5 = (dg 0).set 0 5 := by decide
  rw [this, ← ncells_set]; rfl
theorem mod_end (U V : Nat) (h : U / 1361129467683753853853498429727072845824 = 0) (hm : U % 1361129467683753853853498429727072845819 = V % 1361129467683753853853498429727072845819) : if (U + 5) / 1361129467683753853853498429727072845824 = 0 then U % 1361129467683753853853498429727072845824 = V % 1361129467683753853853498429727072845819 else (U + 5) % 1361129467683753853853498429727072845824 = V % 1361129467683753853853498429727072845819 := by
  split <;> omega
theorem k5_at (w1 : World) : At (w1.alloc (.cells k5.toArray 113)) w1.heap.size 113 (ncells (dg 5)) := by
  have := At.alloc_new w1 113 k5.toArray
  rw [List.toList_toArray] at this
  rw [← k5_dg]
  exact this
set_option maxRecDepth 100000 in
set_option maxHeartbeats 1000000 in
theorem modulo_any (V : Nat) (hV : V < 65536 ^ 24) (w : World) :
    Calls Tryd.prog 71 #[.agg (ncells (dg V)).toArray] w fun e w' => e = .returned (.agg (ncells (dg (V % 1361129467683753853853498429727072845819))).toArray) ∧ Fr [] w w' := by
  obtain ⟨g, hg⟩ : ∃ g, g = w.heap.size := ⟨_, rfl⟩
  obtain ⟨z, hz⟩ : ∃ z, z = w.heap.size + 1 := ⟨_, rfl⟩
  obtain ⟨W, hW⟩ : ∃ W, W = (w.alloc (.cells (ncells (dg V)).toArray 113)).alloc (.cells z24.toArray 113) := ⟨_, rfl⟩
  have N0 : At W g 113 (ncells (dg V)) := by
    have := (At.alloc_new w 113 (ncells (dg V)).toArray).alloc (.cells z24.toArray 113)
    rw [← hW, ← hg, List.toList_toArray] at this
    exact this
  have Z0 : At W z 113 z24 := by
    have := At.alloc_new (w.alloc (.cells (ncells (dg V)).toArray 113)) 113 z24.toArray
    rw [← hW, show (w.alloc (.cells (ncells (dg V)).toArray 113)).heap.size = z by rw [hz]; simp, List.toList_toArray] at this
    exact this
  have F0 : Fr [] w W := by rw [hW]; exact (Fr.alloc _ _ _).trans (Fr.alloc _ _ _)
  have hgz : (w.heap.size ≤ g ∧ w.heap.size ≤ z) ∧ z ≠ g := by omega
  have HV := Lib.hid hV
  clear hV
  have hsz := dsz V
  have c1 := fun w => parted_any V HV.out w
  obtain ⟨L, hL⟩ : ∃ L, L = dg (V % 1361129467683753853853498429727072845824) := ⟨_, rfl⟩
  obtain ⟨H, hH⟩ : ∃ H, H = dg (V / 1361129467683753853853498429727072845824) := ⟨_, rfl⟩
  have hLl : L.length = 24 := by rw [hL]; exact dg_len _
  have hHl : H.length = 24 := by rw [hH]; exact dg_len _
  rw [← hL, ← hH] at c1
  have HL := Lib.hid (And.intro hL hH)
  clear hL hH
  have HG := Lib.hid hgz
  clear hgz
  have hol1 : z24.toArray.size = (ncells L).toArray.size := dold L hLl
  have hol2 : z24.toArray.size = (ncells H).toArray.size := dold H hHl
  go_enter Tryd.func71, Tryd.ntmps71
  subst hW hg hz
  go_wp2_with (first
    | refine wpList_load_row rfl _ _ rfl _ rfl _ _ _ _ N0.out Tryd.underlying113 rfl hsz ?_
    | (go_at_call 82; refine (c1 _).mono ?_; clear c1; rintro e wc ⟨rfl, hFc⟩; have N1 := ((hFc.keep N0 (by simp)).alloc (.cells z24.toArray 113)).alloc (.cells z24.toArray 113); have Z1 := ((hFc.keep Z0 (by simp)).alloc (.cells z24.toArray 113)).alloc (.cells z24.toArray 113); have L1 := (At.alloc_new wc 113 z24.toArray).alloc (.cells z24.toArray 113); have H1 := At.alloc_new (wc.alloc (.cells z24.toArray 113)) 113 z24.toArray; rw [show (wc.alloc (.cells z24.toArray 113)).heap.size = wc.heap.size + 1 by simp] at H1; have H2 := (Fr.setRow [wc.heap.size] _ wc.heap.size (ncells L).toArray (.inl (by simp))).keep H1 (by simp))
    | refine wpList_store_row rfl _ _ _ rfl _ _ rfl rfl _ _ L1.out (dsize L hLl) hol1 (ncells_one L) ?_
    | refine wpList_store_row rfl _ _ _ rfl _ _ rfl rfl _ _ H2.out (dsize H hHl) hol2 (ncells_one H) ?_
    | fail)
  have L2 := L1.setRow (ncells L).toArray
  have L3 := (Fr.setRow [wc.heap.size + 1] _ (wc.heap.size + 1) (ncells H).toArray (.inl (by simp))).keep L2 (by simp)
  have H3 := H2.setRow (ncells H).toArray
  rw [List.toList_toArray] at L3 H3
  have f1 : Fr [wc.heap.size, wc.heap.size + 1] ((wc.alloc (.cells z24.toArray 113)).alloc (.cells z24.toArray 113)) _ := (Fr.setRow [wc.heap.size, wc.heap.size + 1] _ wc.heap.size (ncells L).toArray (.inl (by simp))).trans (Fr.setRow [wc.heap.size, wc.heap.size + 1] _ (wc.heap.size + 1) (ncells H).toArray (.inl (by simp)))
  have hw0 : ((w.alloc (.cells (ncells (dg V)).toArray 113)).alloc (.cells z24.toArray 113)).heap.size = w.heap.size + 2 := by simp
  have hw1 := F0.size
  have hw2 : ((w.alloc (.cells (ncells (dg V)).toArray 113)).alloc (.cells z24.toArray 113)).heap.size ≤ wc.heap.size := hFc.size
  have hw3 := N0.lt
  have hw4 := Z0.lt
  have N3 := f1.keep N1 (by simp; omega)
  have Z3 := f1.keep Z1 (by simp; omega)
  have F3 := (F0.trans (hFc.trans ((Fr.alloc _ _ _).trans (Fr.alloc _ _ _)))).new f1 (by simp; omega)
  have hgl : w.heap.size ≤ wc.heap.size ∧ wc.heap.size ≠ w.heap.size ∧ wc.heap.size ≠ w.heap.size + 1 ∧ wc.heap.size + 1 ≠ w.heap.size ∧ wc.heap.size + 1 ≠ w.heap.size + 1 := by omega
  obtain ⟨lo, hlo⟩ : ∃ x, x = wc.heap.size := ⟨_, rfl⟩
  obtain ⟨hi, hhi⟩ : ∃ x, x = wc.heap.size + 1 := ⟨_, rfl⟩
  obtain ⟨g, hg⟩ : ∃ x, x = w.heap.size := ⟨_, rfl⟩
  obtain ⟨z, hz⟩ : ∃ x, x = w.heap.size + 1 := ⟨_, rfl⟩
  have hgk : g ≤ lo ∧ g ≤ hi ∧ g ≤ z ∧ lo ≠ g ∧ lo ≠ z ∧ hi ≠ g ∧ hi ≠ z ∧ z ≠ g ∧ lo ≠ hi ∧ w.heap.size = g := by omega
  rw [← hhi, ← hlo] at L3 H3
  rw [← hhi, ← hlo, ← hg] at N3
  rw [← hhi, ← hlo, ← hz] at Z3
  rw [← hhi, ← hlo, ← hz, ← hg]
  rw [← hhi, ← hlo] at F3
  change Code.wp _ _ _ _ ((((wc.alloc (.cells z24.toArray 113)).alloc (.cells z24.toArray 113)).setRow lo (ncells L).toArray).setRow hi (ncells H).toArray)
  generalize (((wc.alloc (.cells z24.toArray 113)).alloc (.cells z24.toArray 113)).setRow lo (ncells L).toArray).setRow hi (ncells H).toArray = W at L3 H3 N3 Z3 F3 ⊢
  rw [HL.out.1] at L3
  rw [HL.out.2] at H3
  have HK := Lib.hid hgk
  clear hw0 L1 L2 H1 H2 f1 hw1 hw2 hw3 hw4 N0 N1 Z0 Z1 F0 hgl hgk hlo hhi hg hz hFc hol1 hol2 hsz HG HL hLl hHl
  simp only [Act.put]
  go_loopg [] V (fun k wr => ∃ X, k < 65536 ^ 24 ∧ k % 1361129467683753853853498429727072845819 = V % 1361129467683753853853498429727072845819 ∧ At wr g 113 (ncells (dg X)) ∧ At wr z 113 z24 ∧ At wr lo 113 (ncells (dg (k % 1361129467683753853853498429727072845824))) ∧ At wr hi 113 (ncells (dg (k / 1361129467683753853853498429727072845824))) ∧ Fr [] w wr)
  case atStart => exact ⟨V, HV.out, rfl, N3, Z3, L3, H3, F3⟩
  case round =>
    clear L3 H3 N3 Z3 F3
    obtain ⟨X, hU, hm, hN, hZ, hL, hH, hF⟩ := hrel
    have HU := Lib.hid (And.intro hU hm)
    have hlH := dsz (gk / 1361129467683753853853498429727072845824)
    have c0 := fun w => zero_any (gk / 1361129467683753853853498429727072845824) (by omega) w
    by_cases h0 : gk / 1361129467683753853853498429727072845824 = 0
    · have k0 : (decide (gk / 1361129467683753853853498429727072845824 = 0)) = true := decide_eq_true h0
      rw [k0] at c0
      clear k0
      have hend := mod_end gk V h0 HU.out.2
      have cA := fun w => add_any (gk % 1361129467683753853853498429727072845824) 5 w
      have hlt : gk < 1361129467683753853853498429727072845824 := by omega
      rw [show gk % 1361129467683753853853498429727072845824 = gk from Nat.mod_eq_of_lt hlt] at hL cA hend
      have cP := fun w => parted_any (gk + 5) (by omega) w
      have cZ := fun w => zero_any ((gk + 5) / 1361129467683753853853498429727072845824) (by omega) w
      have hlL := dsz gk
      have hlK := dsz 5
      have h5 := cells5
      obtain ⟨O, hO⟩ : ∃ O, O = (gk + 5) / 1361129467683753853853498429727072845824 := ⟨_, rfl⟩
      obtain ⟨Y, hY⟩ : ∃ Y, Y = (gk + 5) % 1361129467683753853853498429727072845824 := ⟨_, rfl⟩
      rw [← hO] at cP cZ hend
      rw [← hY] at cP hend
      have hlO := dsz O
      have hlY := dsz Y
      have HE := Lib.hid hend
      clear hend hO hY hlt h0 hU hm
      go_upto_region 7 with (first
        | (go_at_call 83; refine (c0 _).mono ?_; clear c0; rintro e w1 ⟨rfl, f1⟩; have K1 := k5_at w1; have L1 := (f1.keep hL (by simp)).alloc (.cells k5.toArray 113); have Z1 := (f1.keep hZ (by simp)).alloc (.cells k5.toArray 113); have F1 := (hF.trans f1).trans (Fr.alloc [] w1 (.cells k5.toArray 113)))
        | refine wpList_load_row rfl _ (.tmp 4) rfl _ rfl _ _ _ _ hH.out Tryd.underlying113 rfl hlH ?_
        | fail)
      have A0 := HK.out
      have fk1 := hF.trans f1
      have G1 : wr.heap.size ≤ w1.heap.size := f1.size
      go_cut [6, 7] from 25 to 32 (fun a b wx => ∃ r o : Nat, a = Value.pointer (some { block := r, off := 0 }) ∧ b = Value.pointer (some { block := o, off := 0 }) ∧ r ≠ z ∧ o ≠ z ∧ At wx r 113 (ncells (dg Y)) ∧ At wx o 113 (ncells (dg O)) ∧ At wx lo 113 (ncells (dg gk)) ∧ At wx z 113 z24 ∧ Fr [] w wx)
      case first =>
        go_wp2_with (first
        | (refine wpList_store_row rfl _ (.tmp 7) _ rfl _ _ rfl rfl _ _ O4.out hlO (dol O) (don O) ?_; simp only [Act.put])
        | (refine wpList_store_row rfl _ (.tmp 6) _ rfl _ _ rfl rfl _ _ R3.out hlY (dol Y) (don Y) ?_; simp only [Act.put])
        | (go_at_call 82; refine (cP _).mono ?_; clear cP; rintro e w3 ⟨rfl, f3⟩; have R3 := (At.alloc_new w3 113 z24.toArray).alloc (.cells z24.toArray 113); have O3 := At.alloc_new (w3.alloc (.cells z24.toArray 113)) 113 z24.toArray; rw [show (w3.alloc (.cells z24.toArray 113)).heap.size = w3.heap.size + 1 by simp] at O3; have O4 := (Fr.setRow [w3.heap.size] _ w3.heap.size (ncells (dg Y)).toArray (.inl (by simp))).keep O3 (by simp))
        | (go_at_call 73; refine (cA _).mono ?_; clear cA; rintro e w2 ⟨rfl, f2⟩)
        | refine wpList_load_row rfl _ (.tmp 5) rfl _ rfl _ _ _ _ K1.out Tryd.underlying113 rfl hlK ?_
        | refine wpList_load_row rfl _ (.tmp 3) rfl _ rfl _ _ _ _ L1.out Tryd.underlying113 rfl hlL ?_
        | fail)
        go_meet
        case rel =>
          have s2 : lo < w3.heap.size := Nat.lt_of_lt_of_le L1.lt (f2.trans f3).size
          have s3 : z < w3.heap.size := Nat.lt_of_lt_of_le Z1.lt (f2.trans f3).size
          have f34 : Fr [w3.heap.size, w3.heap.size + 1] ((w3.alloc (.cells z24.toArray 113)).alloc (.cells z24.toArray 113)) _ := (Fr.setRow [w3.heap.size, w3.heap.size + 1] _ w3.heap.size (ncells (dg Y)).toArray (.inl (by simp))).trans (Fr.setRow [w3.heap.size, w3.heap.size + 1] _ (w3.heap.size + 1) (ncells (dg O)).toArray (.inl (by simp)))
          have R5 := (Fr.setRow [w3.heap.size + 1] _ (w3.heap.size + 1) (ncells (dg O)).toArray (.inl (by simp))).keep (R3.setRow (ncells (dg Y)).toArray) (by simp)
          have O5 := O4.setRow (ncells (dg O)).toArray
          rw [List.toList_toArray] at R5 O5
          have fA : Fr [] w1 ((w3.alloc (.cells z24.toArray 113)).alloc (.cells z24.toArray 113)) := (Fr.alloc [] w1 (.cells k5.toArray 113)).trans ((f2.trans f3).trans ((Fr.alloc _ _ _).trans (Fr.alloc _ _ _)))
          have L3 := (((f2.trans f3).keep L1 (by simp)).alloc (.cells z24.toArray 113)).alloc (.cells z24.toArray 113)
          have Z3 := (((f2.trans f3).keep Z1 (by simp)).alloc (.cells z24.toArray 113)).alloc (.cells z24.toArray 113)
          have s5 : w.heap.size ≤ w3.heap.size := Nat.le_trans F1.size (f2.trans f3).size
          refine ⟨_, _, rfl, rfl, ?_, ?_, R5, O5, f34.keep L3 ?_, f34.keep Z3 ?_, ((F1.trans (f2.trans f3)).trans ((Fr.alloc _ _ _).trans (Fr.alloc _ _ _))).new f34 ?_⟩
          · omega
          · omega
          · simp; omega
          · simp; omega
          · simp; omega
      case rest =>
        obtain ⟨r, o, rfl, rfl, hrz, hoz, dR, dO, dL, dZ, dF⟩ := hcut
        clear K1 L1 Z1 F1 fk1 G1 f1 hN hZ hL hH hF A0 cA cP
        have HR := Lib.hid (And.intro hrz hoz)
        clear hrz hoz
        by_cases hO0 : O = 0
        · rw [show decide (O = 0) = true from decide_eq_true hO0] at cZ
          have hE := HE.out
          rw [if_pos hO0] at hE
          have HE2 := Lib.hid hE
          clear hE hO0
          go_wp2_with (first
          | (refine wpList_store_row rfl _ (.tmp 2) _ rfl _ _ rfl rfl _ _ Z4.out hlL (dol gk) (don gk) ?_; simp only [Act.put])
          | refine wpList_load_row rfl _ (.tmp 3) rfl _ rfl _ _ _ _ X4.out Tryd.underlying113 rfl hlL ?_
          | (go_at_call 83; refine (cZ _).mono ?_; clear cZ; rintro e w4 ⟨rfl, f4⟩; have Z4 := f4.keep dZ (by simp); have X4 := f4.keep dL (by simp); have F4 := dF.trans f4)
          | refine wpList_load_row rfl _ (.tmp 7) rfl _ rfl _ _ _ _ dO.out Tryd.underlying113 rfl hlO ?_
          | fail)
          have A1 := Z4.setRow (ncells (dg gk)).toArray
          rw [List.toList_toArray] at A1
          refine ⟨rfl, _, ?_, rfl, F4.new (S := [z]) (Fr.setRow [z] _ _ _ (.inl (by simp))) (by simp; have := HK.out; omega)⟩
          rw [← HE2.out]
          refine results_cell_row (p := 2) (ty := 113) (by rfl) _ _ z 113 _ (0, 0) _ ?_ A1.out Tryd.underlying113 rfl hlL
          simp only [Act.put, List.setIfInBounds_toArray, List.set_cons_zero, List.set_cons_succ, Array.getD_eq_getD_getElem?, List.getElem?_toArray, List.getElem?_cons_succ, List.getElem?_cons_zero, Option.getD_some]
        · rw [show decide (O = 0) = false from decide_eq_false hO0] at cZ
          have hE := HE.out
          rw [if_neg hO0] at hE
          have HE2 := Lib.hid hE
          clear hE hO0
          go_wp2_with (first
          | (refine wpList_store_row rfl _ (.tmp 2) _ rfl _ _ rfl rfl _ _ Z4.out hlY (dol Y) (don Y) ?_; simp only [Act.put])
          | refine wpList_load_row rfl _ (.tmp 6) rfl _ rfl _ _ _ _ X4.out Tryd.underlying113 rfl hlY ?_
          | (go_at_call 83; refine (cZ _).mono ?_; clear cZ; rintro e w4 ⟨rfl, f4⟩; have Z4 := f4.keep dZ (by simp); have X4 := f4.keep dR (by simp); have F4 := dF.trans f4)
          | refine wpList_load_row rfl _ (.tmp 7) rfl _ rfl _ _ _ _ dO.out Tryd.underlying113 rfl hlO ?_
          | fail)
          have A1 := Z4.setRow (ncells (dg Y)).toArray
          rw [List.toList_toArray] at A1
          refine ⟨rfl, _, ?_, rfl, F4.new (S := [z]) (Fr.setRow [z] _ _ _ (.inl (by simp))) (by simp; have := HK.out; omega)⟩
          rw [← HE2.out]
          refine results_cell_row (p := 2) (ty := 113) (by rfl) _ _ z 113 _ (0, 0) _ ?_ A1.out Tryd.underlying113 rfl hlY
          simp only [Act.put, List.setIfInBounds_toArray, List.set_cons_zero, List.set_cons_succ, Array.getD_eq_getD_getElem?, List.getElem?_toArray, List.getElem?_cons_succ, List.getElem?_cons_zero, Option.getD_some]
    · have k0 : (decide (gk / 1361129467683753853853498429727072845824 = 0)) = false := decide_eq_false h0
      rw [k0] at c0
      clear k0
      have c1 := fun w => five_any (gk / 1361129467683753853853498429727072845824) w
      have c2 := fun w => add_any (gk % 1361129467683753853853498429727072845824) (5 * (gk / 1361129467683753853853498429727072845824)) w
      have fl := fold_lt gk h0
      have fm := fold_mod gk
      obtain ⟨n, hn⟩ : ∃ n, n = gk % 1361129467683753853853498429727072845824 + 5 * (gk / 1361129467683753853853498429727072845824) := ⟨_, rfl⟩
      rw [← hn] at c2 fl fm
      have c3 := fun w => parted_any n (by omega) w
      have hlL := dsz (gk % 1361129467683753853853498429727072845824)
      obtain ⟨A, hA⟩ : ∃ A, A = gk % 1361129467683753853853498429727072845824 := ⟨_, rfl⟩
      obtain ⟨B, hB⟩ : ∃ B, B = gk / 1361129467683753853853498429727072845824 := ⟨_, rfl⟩
      rw [← hA] at hL c2 hlL
      rw [← hB] at hH c0 c1 c2 hlH
      obtain ⟨A2, hA2⟩ : ∃ A, A = n % 1361129467683753853853498429727072845824 := ⟨_, rfl⟩
      obtain ⟨B2, hB2⟩ : ∃ B, B = n / 1361129467683753853853498429727072845824 := ⟨_, rfl⟩
      rw [← hA2, ← hB2] at c3
      have hl2 := dsz n
      have hl3 := dsz A2
      have hl4 := dsz B2
      have HN := Lib.hid (And.intro fl (And.intro fm (And.intro hA2 hB2)))
      clear hU hm fl fm hA2 hB2 hA hB hn h0
      go_upto_region 3 with (first
        | (go_at_call 83; refine (c0 _).mono ?_; clear c0; rintro e w0 ⟨rfl, f0⟩)
        | refine wpList_load_row rfl _ (.tmp 4) rfl _ rfl _ _ _ _ hH.out Tryd.underlying113 rfl hlH ?_
        | fail)
      refine wp_region_until (fun w' => (loadVar 113 ⟨lo, 0, none⟩).run Tryd.prog w' = .ok (.agg (ncells (dg A)).toArray) w' ∧ (loadVar 113 ⟨hi, 0, none⟩).run Tryd.prog w' = .ok (.agg (ncells (dg B)).toArray) w') (fun w' => True) 4 (by rfl) ?_
      have g0 : ∀ w', Fr [g] wr w' → (loadVar 113 ⟨lo, 0, none⟩).run Tryd.prog w' = .ok (.agg (ncells (dg A)).toArray) w' ∧ (loadVar 113 ⟨hi, 0, none⟩).run Tryd.prog w' = .ok (.agg (ncells (dg B)).toArray) w' := fun w' f => ⟨num_run (dg_len _) (f.keep hL (by simpa using HK.out.2.2.2.1)), num_run (dg_len _) (f.keep hH (by simpa using HK.out.2.2.2.2.2.1))⟩
      have f0' := f0.trans (Fr.drew [] w0)
      refine until_s0 0 (v := .agg (ncells (dg A)).toArray) rfl (by kernel_rfl) (fun _ _ _ h => h) (Or.inl ⟨by rfl, fun w' hS => exec_loadN rfl rfl hS.1⟩) (g0 _ (f0'.mono (by simp))) (fun _ => trivial) ?_
      refine until_s0 1 (v := .agg (ncells (dg B)).toArray) rfl (by kernel_rfl) (fun _ _ _ h => h) (Or.inl ⟨by rfl, fun w' hS => exec_loadN rfl rfl hS.2⟩) (g0 _ (f0'.mono (by simp))) (fun _ => trivial) ?_
      try simp only [Act.put, List.setIfInBounds_toArray, List.set_cons_zero, List.set_cons_succ]
      refine until_sole 2 rfl (by kernel_rfl) (by rfl) ?_
      intro K' hK
      go_simp
      go_at_call 84
      refine (c1 _).mono ?_
      clear c1
      rintro _ w1 ⟨rfl, f1⟩
      go_wp2_with fail
      have f1 := f0'.trans f1
      refine hK _ _ (g0 _ (f1.mono (by simp))) (fun _ => trivial) ?_
      clear hK
      refine until_sole 3 rfl (by kernel_rfl) (by rfl) ?_
      intro K' hK
      go_simp
      go_at_call 73
      refine (c2 _).mono ?_
      clear c2
      rintro _ w2 ⟨rfl, f2⟩
      go_wp2_with fail
      have f2 := f1.trans f2
      refine hK _ _ (g0 _ (f2.mono (by simp))) (fun _ => trivial) ?_
      clear hK
      refine until_sole 4 rfl (by kernel_rfl) (by rfl) ?_
      intro K' hK
      have hP2 := f2.keep hN (by simp)
      have hP3 := hP2.setRow (ncells (dg n)).toArray
      rw [List.toList_toArray] at hP3
      have f3 := (f2.mono (S' := [g]) (by simp)).trans (Fr.setRow [g] _ g (ncells (dg n)).toArray (.inl (by simp)))
      refine wp_store_row _ _ _ rfl _ _ rfl rfl _ _ hP2.out hl2 (by rw [List.size_toArray, List.size_toArray, ncells_len, ncells_len, dg_len, dg_len]) (don n) ?_
      refine hK _ _ (g0 _ f3) (fun h => absurd (h : true = false) (by decide)) ?_
      clear hK
      refine until_done (by kernel_rfl) ?_ _
      have A4 := f3.keep hL (by simpa using HK.out.2.2.2.1)
      have B4 := f3.keep hH (by simpa using HK.out.2.2.2.2.2.1)
      have Z4 := f3.keep hZ (by simpa using HK.out.2.2.2.2.2.2.2.1)
      have F4 := hF.new f3 (by simp; have := HK.out; omega)
      clear hL hH hN hZ hF g0 hP2 f0 f1 f2 f3 f0'
      generalize w2.setRow g (ncells (dg n)).toArray = w2 at A4 B4 Z4 F4 hP3 ⊢
      have oA := dold (dg A2) (dg_len _)
      go_wp2_with (first
        | (refine wpList_store_row rfl _ (.tmp 4) _ rfl _ _ rfl rfl _ _ B6.out hl4 (by rw [List.size_toArray, List.size_toArray, ncells_len, ncells_len, dg_len, dg_len]) (don B2) ?_; simp only [Act.put])
        | (refine wpList_store_row rfl _ (.tmp 3) _ rfl _ _ rfl rfl _ _ A5.out hl3 (by rw [List.size_toArray, List.size_toArray, ncells_len, ncells_len, dg_len, dg_len]) (don A2) ?_; simp only [Act.put])
        | (go_at_call 82; refine (c3 _).mono ?_; clear c3; rintro e w3 ⟨rfl, f4⟩; have A5 := f4.keep A4 (by simp); have B6 := (Fr.setRow [lo] w3 lo (ncells (dg A2)).toArray (.inl (by simp))).keep (f4.keep B4 (by simp)) (by have := HK.out; simp; omega))
        | refine wpList_load_row rfl _ (.tmp 1) rfl _ rfl _ _ _ _ hP3.out Tryd.underlying113 rfl hl2 ?_
        | fail)
      have f5 : Fr [lo, hi] w3 ((w3.setRow lo (ncells (dg A2)).toArray).setRow hi (ncells (dg B2)).toArray) := (Fr.setRow [lo, hi] w3 lo _ (.inl (by simp))).trans (Fr.setRow [lo, hi] _ hi _ (.inl (by simp)))
      have L6 := (Fr.setRow [hi] (w3.setRow lo (ncells (dg A2)).toArray) hi (ncells (dg B2)).toArray (.inl (by simp))).keep (A5.setRow (ncells (dg A2)).toArray) (by have := HK.out; simp; omega)
      have H6 := B6.setRow (ncells (dg B2)).toArray
      rw [List.toList_toArray] at L6 H6
      have N6 := f5.keep (f4.keep hP3 (by simp)) (by have := HK.out; simp; omega)
      have Z6 := f5.keep (f4.keep Z4 (by simp)) (by have := HK.out; simp; omega)
      have F6 := (F4.trans f4).new f5 (by have := HK.out; simp; omega)
      go_roundg n
      case measure => exact HN.out.1
      case rel =>
        refine ⟨n, Nat.lt_trans HN.out.1 HU.out.1, by rw [HN.out.2.1]; exact HU.out.2, N6, Z6, ?_, ?_, F6⟩
        · rw [← HN.out.2.2.1]; exact L6
        · rw [← HN.out.2.2.2]; exact H6
end Go.Proofs.YtichgiecohhmgaaDoor
namespace Go.Proofs.YtichgiecohhmgaaDoor
open Go.RowKit Go.Lib Go.Joins Base
set_option linter.unusedVariables false
set_option linter.unusedSimpArgs false

theorem pow_256 (j : Nat) : 256 ^ (2 * j) = 65536 ^ j := by rw [Nat.pow_mul]
/-- One byte more, at its place. -/
theorem dg_place (V j b : Nat) (hV : V < 65536 ^ j * b) (hb : b ≤ 65536) (c : Nat) (hc : b * (c + 1) ≤ 65536) (hj : j < 24) : (dg V).set j (V / 65536 ^ j % 65536 + b * c) = dg (V + 65536 ^ j * (b * c)) := by
  have hp : 0 < 65536 ^ j := Nat.pow_pos (by omega)
  have h1 : V / 65536 ^ j < b := Nat.div_lt_of_lt_mul hV
  have h2 : b * (c + 1) = b * c + b := by rw [Nat.mul_add, Nat.mul_one]
  have h3 : V / 65536 ^ j % 65536 = V / 65536 ^ j := Nat.mod_eq_of_lt (by omega)
  have h4 : (V + 65536 ^ j * (b * c)) / 65536 ^ j = V / 65536 ^ j + b * c := Nat.add_mul_div_left _ _ hp
  apply List.ext_getElem?
  intro k
  rcases Nat.lt_or_ge k 24 with hk | hk
  · rw [List.getElem?_set]
    by_cases hjk : j = k
    · subst hjk
      rw [if_pos rfl, if_pos (by rw [dg_len]; exact hj), dg_get _ _ hk, h4, h3, Nat.mod_eq_of_lt (by omega)]
    · rw [if_neg hjk, dg_get _ _ hk, dg_get _ _ hk]
      congr 1
      rcases Nat.lt_or_ge k j with hkj | hkj
      · have e : (65536 : Nat) ^ j * (b * c) = 65536 ^ k * (65536 * (65536 ^ (j - k - 1) * (b * c))) := by
          rw [← Nat.mul_assoc 65536, ← Nat.mul_assoc (65536 ^ k), ← Nat.pow_succ', ← Nat.pow_add]
          congr 2; omega
        rw [e, Nat.add_mul_div_left _ _ (Nat.pow_pos (by omega)), Nat.add_mul_mod_self_left]
      · have e : (65536 : Nat) ^ k = 65536 ^ j * 65536 ^ (k - j) := by rw [← Nat.pow_add]; congr 1; omega
        have e2 : 65536 ≤ 65536 ^ (k - j) := by
          calc (65536 : Nat) = 65536 ^ 1 := by rw [Nat.pow_one]
            _ ≤ _ := Nat.pow_le_pow_right (by omega) (by omega)
        rw [e, ← Nat.div_div_eq_div_mul, ← Nat.div_div_eq_div_mul, h4, Nat.div_eq_of_lt (a := V / 65536 ^ j) (by omega), Nat.div_eq_of_lt (by omega)]
  · rw [List.getElem?_eq_none (by rw [List.length_set, dg_len]; exact hk), List.getElem?_eq_none (by rw [dg_len]; exact hk)]
theorem dg_even (V j c : Nat) (hV : V < 256 ^ (2 * j)) (hc : c < 256) (hj : j < 24) : (dg V).set j (V / 65536 ^ j % 65536 + c) = dg (V + 256 ^ (2 * j) * c) := by
  have := dg_place V j 1 (by rw [Nat.mul_one, ← pow_256]; exact hV) (by omega) c (by omega) hj
  rw [Nat.one_mul, ← pow_256 j] at this
  rw [← pow_256 j]
  exact this
theorem dg_odd (V j c : Nat) (hV : V < 256 ^ (2 * j + 1)) (hc : c < 256) (hj : j < 24) : (dg V).set j (V / 65536 ^ j % 65536 + 256 * c) = dg (V + 256 ^ (2 * j + 1) * c) := by
  have := dg_place V j 256 (by rw [← pow_256, ← Nat.pow_succ]; exact hV) (by omega) c (by omega) hj
  rw [← Nat.mul_assoc, ← pow_256 j, ← Nat.pow_succ] at this
  rw [← pow_256 j]
  exact this
theorem leN_take (l : List UInt8) (i : Nat) (h : i < l.length) : leN (l.take (i + 1)) = leN (l.take i) + 256 ^ i * (l.getD i 0).toNat := by
  rw [List.take_add_one, List.getElem?_eq_getElem h, leN_app, List.length_take, Nat.min_eq_left (by omega)]
  simp [leN, List.getD, h]
theorem leN_take_lt (l : List UInt8) (i : Nat) (h : i ≤ l.length) : leN (l.take i) < 256 ^ i := by
  have := leN_lt (l.take i)
  rw [List.length_take, Nat.min_eq_left h] at this
  exact this

set_option maxRecDepth 100000 in
set_option maxHeartbeats 1000000 in
theorem number_any (s : ByteArray) (b : Nat) (hs : s.size ≤ 32) (hb : b < 256) (w : World) :
    Calls Tryd.prog 69 #[.string s, .int .i64 b] w fun e w' => e = .returned (.agg (ncells (dg (leN s.data.toList + 256 ^ s.size * b))).toArray) ∧ Fr [] w w' := by
  obtain ⟨z, hz⟩ : ∃ z, z = w.heap.size := ⟨_, rfl⟩
  obtain ⟨g, hg⟩ : ∃ g, g = w.heap.size + 1 := ⟨_, rfl⟩
  obtain ⟨W, hW⟩ : ∃ W, W = (w.alloc (.cells z24.toArray 113)).alloc (.cells z24.toArray 113) := ⟨_, rfl⟩
  have Z0 : At W z 113 z24 := by
    have := (At.alloc_new w 113 z24.toArray).alloc (.cells z24.toArray 113)
    rw [← hW, ← hz, List.toList_toArray] at this
    exact this
  have N0 : At W g 113 (ncells (dg (leN (s.data.toList.take 0)))) := by
    have := At.alloc_new (w.alloc (.cells z24.toArray 113)) 113 z24.toArray
    rw [← hW, show (w.alloc (.cells z24.toArray 113)).heap.size = g by rw [hg]; simp, List.toList_toArray] at this
    rw [List.take_zero, leN, ← z24_dg]
    exact this
  have F0 : Fr [] w W := by rw [hW]; exact (Fr.alloc _ _ _).trans (Fr.alloc _ _ _)
  have hgz : (w.heap.size ≤ g ∧ w.heap.size ≤ z) ∧ z ≠ g := by omega
  have hsl : s.data.toList.length = s.size := by simp
  go_enter Tryd.func69, Tryd.ntmps69
  go_wp2_with fail
  change Code.wp _ _ _ _ ((w.alloc (.cells z24.toArray 113)).alloc (.cells z24.toArray 113))
  rw [← hW, ← hg, ← hz]
  clear hW hz hg
  have HG := Lib.hid hgz
  have HL := Lib.hid hsl
  clear hgz hsl
  go_loopw [6] (fun v wr => ∃ i : Nat, i ≤ s.size ∧ v = .int .i64 i ∧ At wr g 113 (ncells (dg (leN (s.data.toList.take i)))) ∧ At wr z 113 z24 ∧ Fr [] w wr) (fun v _ => s.size - (RowKit.intOf v).toNat)
  case atStart => exact ⟨0, by omega, rfl, N0, Z0, F0⟩
  case round =>
    clear N0 Z0 F0
    obtain ⟨i, hi, rfl, hA, hZ, hF⟩ := hrel
    by_cases hli : i < s.size
    · have l1 : (i : Int) < s.size := by omega
      obtain ⟨x, hx⟩ : ∃ x, x = s.data.toList.getD i 0 := ⟨_, rfl⟩
      have ga : s[i]'hli = x := bget _ (by rw [hx, List.getD, List.getElem?_eq_getElem (by simpa using hli)]; rfl)
      have htk := leN_take s.data.toList i (by rw [HL.out]; exact hli)
      have hlt := leN_take_lt s.data.toList i (by rw [HL.out]; exact hi)
      rw [← hx] at htk
      have w2 : IntKind.i64.wrap ((i : Int) + 1) = ((i + 1 : Nat) : Int) := by rw [IntWalk.i64_in _ (by omega)]; omega
      have wx : IntKind.i64.wrap (x.toNat : Int) = (x.toNat : Int) := wrapI_nat _ (by have := x.toNat_lt; omega)
      have hx8 : x.toNat < 256 := x.toNat_lt
      have HT := Lib.hid htk
      clear htk hx
      generalize leN (s.data.toList.take i) = V at hA hlt HT
      rcases Nat.mod_two_eq_zero_or_one i with hp | hp
      · obtain ⟨j, hj⟩ : ∃ j, i = 2 * j := ⟨i / 2, by omega⟩
        have r1 : ∀ t, binOp .rem t (.int .i64 (i : Int)) (.int .i64 2) = pure (.int .i64 0) := fun t => by
          have := remJ i 2 (by omega) t
          rw [show i % 2 = 0 by omega] at this
          exact this
        have r2 : ∀ t, binOp .quo t (.int .i64 (i : Int)) (.int .i64 2) = pure (.int .i64 (j : Int)) := fun t => by
          have := quoJ i 2 (by omega) (by omega) t
          rw [show i / 2 = j by omega] at this
          exact this
        have l2 : (j : Int) < 24 := by omega
        have w4 : IntKind.i64.wrap (j : Int) = (j : Int) := IntWalk.i64_in _ (by omega)
        rw [hj] at hlt HT
        have hset := dg_even V j x.toNat hlt hx8 (by omega)
        have c0 := hA.cell j
        have a0 := hA.frozen j
        rw [dgc V j (by omega)] at c0
        have q1 : V / 65536 ^ j % 65536 < 65536 := Nat.mod_lt _ (by omega)
        generalize V / 65536 ^ j % 65536 = y at c0 q1 hset
        have w1 : IntKind.i64.wrap ((y : Int) + x.toNat) = ((y + x.toNat : Nat) : Int) := by rw [IntWalk.i64_in _ (by omega)]; omega
        have hA2 := hA.setCell j (.int .i64 ((y + x.toNat : Nat) : Int))
        rw [ncells_set, hset] at hA2
        have hZ2 := hZ.setCell_other (a := ⟨g, j, none⟩) (by simpa using HG.out.2) (.int .i64 ((y + x.toNat : Nat) : Int))
        have F2 := hF.new (S := [g]) (Fr.setCell [g] wr ⟨g, j, none⟩ (.int .i64 ((y + x.toNat : Nat) : Int)) (.inl (by simp))) (by simp; exact HG.out.1.1)
        have HJ := Lib.hid hj
        clear hset hlt hp hA hZ hF q1 hx8 hj
        go_wp2_with fail
        go_region
        go_wp2_with fail
        exact ⟨⟨i + 1, by omega, by simp, by rw [HJ.out, HT.out]; exact hA2, hZ2, by first | exact F2.trans (Fr.drewN _ _ _) | exact F2.trans (Fr.drew _ _)⟩, by simp only [RowKit.intOf]; omega⟩
      · obtain ⟨j, hj⟩ : ∃ j, i = 2 * j + 1 := ⟨i / 2, by omega⟩
        have r1 : ∀ t, binOp .rem t (.int .i64 (i : Int)) (.int .i64 2) = pure (.int .i64 1) := fun t => by
          have := remJ i 2 (by omega) t
          rw [show i % 2 = 1 by omega] at this
          exact this
        have r2 : ∀ t, binOp .quo t (.int .i64 (i : Int)) (.int .i64 2) = pure (.int .i64 (j : Int)) := fun t => by
          have := quoJ i 2 (by omega) (by omega) t
          rw [show i / 2 = j by omega] at this
          exact this
        have l2 : (j : Int) < 24 := by omega
        have w4 : IntKind.i64.wrap (j : Int) = (j : Int) := IntWalk.i64_in _ (by omega)
        rw [hj] at hlt HT
        have hset := dg_odd V j x.toNat hlt hx8 (by omega)
        have c0 := hA.cell j
        have a0 := hA.frozen j
        rw [dgc V j (by omega)] at c0
        have q1 : V / 65536 ^ j % 65536 < 65536 := Nat.mod_lt _ (by omega)
        generalize V / 65536 ^ j % 65536 = y at c0 q1 hset
        obtain ⟨m, hm⟩ : ∃ m, m = 256 * x.toNat := ⟨_, rfl⟩
        have w0 : IntKind.i64.wrap ((256 : Int) * x.toNat) = (m : Int) := by rw [IntWalk.i64_in _ (by omega)]; omega
        have hm8 : m < 65536 := by omega
        rw [← hm] at hset
        have w1 : IntKind.i64.wrap ((y : Int) + m) = ((y + m : Nat) : Int) := by rw [IntWalk.i64_in _ (by omega)]; omega
        have hA2 := hA.setCell j (.int .i64 ((y + m : Nat) : Int))
        rw [ncells_set, hset] at hA2
        have hZ2 := hZ.setCell_other (a := ⟨g, j, none⟩) (by simpa using HG.out.2) (.int .i64 ((y + m : Nat) : Int))
        have F2 := hF.new (S := [g]) (Fr.setCell [g] wr ⟨g, j, none⟩ (.int .i64 ((y + m : Nat) : Int)) (.inl (by simp))) (by simp; exact HG.out.1.1)
        have HJ := Lib.hid hj
        clear hset hlt hp hA hZ hF q1 hx8 hj hm hm8
        go_wp2_with fail
        go_region
        go_wp2_with fail
        exact ⟨⟨i + 1, by omega, by simp, by rw [HJ.out, HT.out]; exact hA2, hZ2, by first | exact F2.trans (Fr.drewN _ _ _) | exact F2.trans (Fr.drew _ _)⟩, by simp only [RowKit.intOf]; omega⟩
    · obtain rfl : i = s.size := by omega
      have l1 : ¬ (s.size : Int) < s.size := by omega
      have hlt := leN_take_lt s.data.toList s.size (by rw [HL.out]; exact Nat.le_refl _)
      rw [show s.data.toList.take s.size = s.data.toList from List.take_of_length_le (by rw [HL.out]; exact Nat.le_refl _)] at hA hlt
      have hzb : (0 : Int) ≤ b := by omega
      obtain ⟨n, hn⟩ : ∃ n, n = s.size := ⟨_, rfl⟩
      obtain ⟨V, hV⟩ : ∃ V, V = leN s.data.toList := ⟨_, rfl⟩
      have hns : n ≤ 32 := by omega
      have hsz0 : (s.size : Int) = (n : Int) := by omega
      obtain ⟨D, hD0⟩ : ∃ D, D = dg (leN s.data.toList + 256 ^ s.size * b) := ⟨_, rfl⟩
      have hD := hD0
      rw [← hV, ← hn] at hD
      rw [← hn] at hlt
      rw [← hV] at hlt hA
      have hDl : D.length = 24 := by rw [hD]; exact dg_len _
      have hsv := dsize D hDl
      have hol := dold D hDl
      have hon := ncells_one D
      have HD := Lib.hid hD0
      clear hn hi hli hV hD0
      rcases Nat.mod_two_eq_zero_or_one n with hp | hp
      · obtain ⟨j, hj⟩ : ∃ j, n = 2 * j := ⟨n / 2, by omega⟩
        have r1 : ∀ t, binOp .rem t (.int .i64 (n : Int)) (.int .i64 2) = pure (.int .i64 0) := fun t => by
          have := remJ n 2 (by omega) t
          rw [show n % 2 = 0 by omega] at this
          exact this
        have r2 : ∀ t, binOp .quo t (.int .i64 (n : Int)) (.int .i64 2) = pure (.int .i64 (j : Int)) := fun t => by
          have := quoJ n 2 (by omega) (by omega) t
          rw [show n / 2 = j by omega] at this
          exact this
        have l2 : (j : Int) < 24 := by omega
        have w4 : IntKind.i64.wrap (j : Int) = (j : Int) := IntWalk.i64_in _ (by omega)
        rw [hj] at hlt
        have hset := dg_even V j b hlt hb (by omega)
        rw [← hj] at hset
        have c0 := hA.cell j
        have a0 := hA.frozen j
        rw [dgc V j (by omega)] at c0
        have q1 : V / 65536 ^ j % 65536 < 65536 := Nat.mod_lt _ (by omega)
        generalize V / 65536 ^ j % 65536 = y at c0 q1 hset
        have w1 : IntKind.i64.wrap ((y : Int) + b) = ((y + b : Nat) : Int) := by rw [IntWalk.i64_in _ (by omega)]; omega
        have hA2 := hA.setCell j (.int .i64 ((y + b : Nat) : Int))
        rw [ncells_set, hset, ← hD] at hA2
        have hZ2 := hZ.setCell_other (a := ⟨g, j, none⟩) (by simpa using HG.out.2) (.int .i64 ((y + b : Nat) : Int))
        have F2 := hF.new (S := [g]) (Fr.setCell [g] wr ⟨g, j, none⟩ (.int .i64 ((y + b : Nat) : Int)) (.inl (by simp))) (by simp; exact HG.out.1.1)
        clear hset hlt hp hA hZ hF q1 hj hD
        go_wp2_with (first
          | refine wpList_load_row rfl _ (.tmp 5) rfl _ rfl _ _ _ _ hA2.out Tryd.underlying113 rfl hsv ?_
          | (refine wpList_store_row rfl _ (.tmp 4) _ rfl _ _ rfl rfl _ _ hZ2.out hsv hol hon ?_; simp only [Act.put])
          | fail)
        have A1 := hZ2.setRow (ncells D).toArray
        rw [List.toList_toArray] at A1
        refine ⟨rfl, _, ?_, rfl, F2.new (S := [z]) (Fr.setRow [z] _ _ _ (.inl (by simp))) (by simp; exact HG.out.1.2)⟩
        rw [← HD.out]
        refine results_cell_row (p := 4) (ty := 113) (by rfl) _ _ z 113 _ (0, 0) _ ?_ A1.out Tryd.underlying113 rfl hsv
        simp only [Act.put, List.setIfInBounds_toArray, List.set_cons_zero, List.set_cons_succ, Array.getD_eq_getD_getElem?, List.getElem?_toArray, List.getElem?_cons_succ, List.getElem?_cons_zero, Option.getD_some]
      · obtain ⟨j, hj⟩ : ∃ j, n = 2 * j + 1 := ⟨n / 2, by omega⟩
        have r1 : ∀ t, binOp .rem t (.int .i64 (n : Int)) (.int .i64 2) = pure (.int .i64 1) := fun t => by
          have := remJ n 2 (by omega) t
          rw [show n % 2 = 1 by omega] at this
          exact this
        have r2 : ∀ t, binOp .quo t (.int .i64 (n : Int)) (.int .i64 2) = pure (.int .i64 (j : Int)) := fun t => by
          have := quoJ n 2 (by omega) (by omega) t
          rw [show n / 2 = j by omega] at this
          exact this
        have l2 : (j : Int) < 24 := by omega
        have w4 : IntKind.i64.wrap (j : Int) = (j : Int) := IntWalk.i64_in _ (by omega)
        rw [hj] at hlt
        have hset := dg_odd V j b hlt hb (by omega)
        rw [← hj] at hset
        have c0 := hA.cell j
        have a0 := hA.frozen j
        rw [dgc V j (by omega)] at c0
        have q1 : V / 65536 ^ j % 65536 < 65536 := Nat.mod_lt _ (by omega)
        generalize V / 65536 ^ j % 65536 = y at c0 q1 hset
        obtain ⟨m, hm⟩ : ∃ m, m = 256 * b := ⟨_, rfl⟩
        have w0 : IntKind.i64.wrap ((256 : Int) * b) = (m : Int) := by rw [IntWalk.i64_in _ (by omega)]; omega
        have hm8 : m < 65536 := by omega
        rw [← hm] at hset
        have w1 : IntKind.i64.wrap ((y : Int) + m) = ((y + m : Nat) : Int) := by rw [IntWalk.i64_in _ (by omega)]; omega
        have hA2 := hA.setCell j (.int .i64 ((y + m : Nat) : Int))
        rw [ncells_set, hset, ← hD] at hA2
        have hZ2 := hZ.setCell_other (a := ⟨g, j, none⟩) (by simpa using HG.out.2) (.int .i64 ((y + m : Nat) : Int))
        have F2 := hF.new (S := [g]) (Fr.setCell [g] wr ⟨g, j, none⟩ (.int .i64 ((y + m : Nat) : Int)) (.inl (by simp))) (by simp; exact HG.out.1.1)
        clear hset hlt hp hA hZ hF q1 hj hD hm hm8
        go_wp2_with (first
          | refine wpList_load_row rfl _ (.tmp 5) rfl _ rfl _ _ _ _ hA2.out Tryd.underlying113 rfl hsv ?_
          | (refine wpList_store_row rfl _ (.tmp 4) _ rfl _ _ rfl rfl _ _ hZ2.out hsv hol hon ?_; simp only [Act.put])
          | fail)
        have A1 := hZ2.setRow (ncells D).toArray
        rw [List.toList_toArray] at A1
        refine ⟨rfl, _, ?_, rfl, F2.new (S := [z]) (Fr.setRow [z] _ _ _ (.inl (by simp))) (by simp; exact HG.out.1.2)⟩
        rw [← HD.out]
        refine results_cell_row (p := 4) (ty := 113) (by rfl) _ _ z 113 _ (0, 0) _ ?_ A1.out Tryd.underlying113 rfl hsv
        simp only [Act.put, List.setIfInBounds_toArray, List.set_cons_zero, List.set_cons_succ, Array.getD_eq_getD_getElem?, List.getElem?_toArray, List.getElem?_cons_succ, List.getElem?_cons_zero, Option.getD_some]
end Go.Proofs.YtichgiecohhmgaaDoor
namespace Go.Proofs.YtichgiecohhmgaaDoor
open Go.RowKit Go.Lib Go.Joins Base
set_option linter.unusedVariables false
set_option linter.unusedSimpArgs false

theorem and15 (x : UInt8) : (x &&& 15).toNat = x.toNat % 16 := by
  rw [UInt8.toNat_and]
  exact Nat.and_two_pow_sub_one_eq_mod x.toNat 4
set_option maxRecDepth 10000 in
theorem and252n : ∀ n, n < 256 → n &&& 252 = n / 4 * 4 := by decide
theorem and252 (x : UInt8) : (x &&& 252).toNat = x.toNat / 4 * 4 := by
  rw [UInt8.toNat_and]
  exact and252n _ x.toNat_lt
/-- One byte of the clamped key. -/
def clB (i : Nat) (x : UInt8) : UInt8 := if i % 4 = 3 then x &&& 15 else if i % 4 = 0 ∧ 0 < i then x &&& 252 else x
theorem sixteen_of (l : List UInt8) (h : l.length = 16) : ∃ a0 a1 a2 a3 a4 a5 a6 a7 a8 a9 a10 a11 a12 a13 a14 a15, l = [a0, a1, a2, a3, a4, a5, a6, a7, a8, a9, a10, a11, a12, a13, a14, a15] := by
  rcases l with _ | ⟨a0, _ | ⟨a1, _ | ⟨a2, _ | ⟨a3, _ | ⟨a4, _ | ⟨a5, _ | ⟨a6, _ | ⟨a7, _ | ⟨a8, _ | ⟨a9, _ | ⟨a10, _ | ⟨a11, _ | ⟨a12, _ | ⟨a13, _ | ⟨a14, _ | ⟨a15, _ | ⟨a16, r⟩⟩⟩⟩⟩⟩⟩⟩⟩⟩⟩⟩⟩⟩⟩⟩⟩ <;> simp at h
  exact ⟨_, _, _, _, _, _, _, _, _, _, _, _, _, _, _, _, rfl⟩
theorem clampUp_get (l : List UInt8) (h : l.length = 16) (i : Nat) (hi : i < 16) : (clampUp l)[i]? = some (clB i (l.getD i 0)) := by
  obtain ⟨a0, a1, a2, a3, a4, a5, a6, a7, a8, a9, a10, a11, a12, a13, a14, a15, rfl⟩ := sixteen_of l h
  have e : clampUp [a0, a1, a2, a3, a4, a5, a6, a7, a8, a9, a10, a11, a12, a13, a14, a15] = [a0, a1, a2, a3 &&& 15, a4 &&& 252, a5, a6, a7 &&& 15, a8 &&& 252, a9, a10, a11 &&& 15, a12 &&& 252, a13, a14, a15 &&& 15] := rfl
  rw [e]
  have : i = 0 ∨ i = 1 ∨ i = 2 ∨ i = 3 ∨ i = 4 ∨ i = 5 ∨ i = 6 ∨ i = 7 ∨ i = 8 ∨ i = 9 ∨ i = 10 ∨ i = 11 ∨ i = 12 ∨ i = 13 ∨ i = 14 ∨ i = 15 := by omega
  rcases this with rfl | rfl | rfl | rfl | rfl | rfl | rfl | rfl | rfl | rfl | rfl | rfl | rfl | rfl | rfl | rfl <;> rfl
theorem clamp_take (l : List UInt8) (h : l.length = 16) (i : Nat) (hi : i < 16) : (clampUp l).take (i + 1) = (clampUp l).take i ++ [clB i (l.getD i 0)] := by
  rw [List.take_add_one, clampUp_get l h i hi]; rfl
theorem byteN (n : Nat) (y : UInt8) (h : y.toNat = n) : IntKind.u8.wrap (n : Int) = bt y := by
  have := y.toNat_lt
  rw [← h]
  exact wrap8_nat _ y.toNat_lt

set_option maxRecDepth 100000 in
set_option maxHeartbeats 1000000 in
theorem clamped_any (k : ByteArray) (hk : 16 ≤ k.size) (hk2 : k.size ≤ 4611686018427387904) (w : World) :
    Calls Tryd.prog 70 #[.string k] w fun e w' => e = .returned (.string ⟨(clampUp (k.data.toList.take 16)).toArray⟩) ∧ Fr [] w w' := by
  have hi5 : (Tryd.prog.info? 5).map (fun i => (i.zero, i.size, i.bytes)) = some (some (.int .u8 0), 1, 1) := by kernel_rfl
  obtain ⟨iI, hiI, hz0, hz1, hz2⟩ := info_parts hi5
  have hsl : k.data.toList.length = k.size := by simp
  obtain ⟨l, hl⟩ : ∃ l, l = k.data.toList.take 16 := ⟨_, rfl⟩
  have hll : l.length = 16 := by rw [hl, List.length_take, hsl]; omega
  have hlg : ∀ i, i < 16 → l.getD i 0 = k.data.toList.getD i 0 := fun i h => by
    rw [hl]; simp [List.getD, List.getElem?_take, h]
  have hcl := clampUp_len l
  rw [hll] at hcl
  rw [← hl]
  have HL := Lib.hid (And.intro hsl (And.intro hll (And.intro hlg hcl)))
  clear hl hsl hll hlg hcl
  go_enter Tryd.func70, Tryd.ntmps70
  go_wp2_with fail
  go_loopw [3, 4] (fun v3 v4 wr => ∃ i : Nat, i ≤ 16 ∧ v4 = .int .i64 i ∧ wr.ownsRow w.heap.size 5 1 v3 i (byteCells ((clampUp l).take i)) ∧ Below w.heap.size w wr) (fun _ v _ => 16 - (RowKit.intOf v).toNat)
  case atStart => exact ⟨0, by omega, rfl, World.ownsRow_nil _ _ _ _, Below.refl _ _⟩
  case round =>
    obtain ⟨i, hi, rfl, h0, hF⟩ := hrel
    have hsz := hF.size
    by_cases hl : i < 16
    · have l1 : (i : Int) < 16 := by omega
      have l2 : (i : Int) < k.size := by omega
      have hik : i < k.size := by omega
      have w2 : IntKind.i64.wrap ((i : Int) + 1) = ((i + 1 : Nat) : Int) := by rw [IntWalk.i64_in _ (by omega)]; omega
      obtain ⟨x, hx⟩ : ∃ x, x = k.data.toList.getD i 0 := ⟨_, rfl⟩
      have ga : k[i]'hik = x := bget _ (by rw [hx, List.getD, List.getElem?_eq_getElem (by simpa using hik)]; rfl)
      have ht := clamp_take l HL.out.2.1 i hl
      rw [HL.out.2.2.1 i hl, ← hx] at ht
      have wx : IntKind.i64.wrap (x.toNat : Int) = (x.toNat : Int) := wrapI_nat _ (by have := x.toNat_lt; omega)
      have hx8 : x.toNat < 256 := x.toNat_lt
      clear hx
      have hm4 : i % 4 = 0 ∨ i % 4 = 1 ∨ i % 4 = 2 ∨ i % 4 = 3 := by omega
      rcases hm4 with hm | hm | hm | hm
      · by_cases hp : 0 < i
        · have r1 : ∀ t, binOp .rem t (.int .i64 (i : Int)) (.int .i64 4) = pure (.int .i64 0) := fun t => by
            have := remJ i 4 (by omega) t
            rw [show i % 4 = 0 by omega] at this
            exact this
          obtain ⟨u, hu⟩ : ∃ u, u = x &&& 252 := ⟨_, rfl⟩
          have e1 : clB i x = u := by rw [clB, if_neg (by omega), if_pos (by omega), hu]
          have d1 : ∀ t, binOp .quo t (.int .i64 (x.toNat : Int)) (.int .i64 4) = pure (.int .i64 ((x.toNat / 4 : Nat) : Int)) := fun t => quoJ x.toNat 4 (by omega) (by omega) t
          obtain ⟨y, hy⟩ : ∃ y, y = x.toNat / 4 := ⟨_, rfl⟩
          rw [← hy] at d1
          obtain ⟨y2, hy2⟩ : ∃ y2, y2 = y * 4 := ⟨_, rfl⟩
          have d2 : IntKind.i64.wrap ((y : Int) * 4) = (y2 : Int) := by rw [show (y : Int) * 4 = (y2 : Int) by omega]; exact IntWalk.i64_in _ (by omega)
          have b4 : IntKind.u8.wrap (y2 : Int) = bt u := byteN y2 u (by rw [hu, and252, hy2, hy])
          have l5 : (0 : Int) < i := by omega
          clear hy hy2
          rw [e1] at ht
          have HT := Lib.hid ht
          have A2 := At.alloc_new wr 5 #[Value.int .u8 (bt u)]
          clear ht hu e1 hm hx8 hp
          go_wp2_with (first
            | (at_builtin; refine wpList_append_own _ rfl _ _ _ rfl w.heap.size 5 iI (.int .u8 0) 1 1 Tryd.underlying35 hiI hz0 hz1 hz2 rfl (by decide) _ i _ rfl (World.ownsRow.alloc h0 _) ⟨wr.heap.size, 0, none⟩ 1 1 (byteCells [u]) rfl rfl (by intro j u' hj; rw [addr_add', Nat.zero_add]; exact (A2.cell j).trans hj) (byteCells_one _) (by simp [maxLen]; omega) (by omega) (by simp; omega) ?_; intro v2 w2 o2 gr2 _)
            | fail)
          refine ⟨⟨i + 1, by omega, by simp, ?_, ?_⟩, by simp only [RowKit.intOf]; omega⟩
          · rw [HT.out]
            simpa [byteCells] using o2
          · refine (hF.alloc (by omega) _).grown gr2 (by simp; omega) ?_
            intro x hx
            exact (h0.lt x hx).1
        · have r1 : ∀ t, binOp .rem t (.int .i64 (i : Int)) (.int .i64 4) = pure (.int .i64 0) := fun t => by
            have := remJ i 4 (by omega) t
            rw [show i % 4 = 0 by omega] at this
            exact this
          obtain ⟨u, hu⟩ : ∃ u, u = x := ⟨_, rfl⟩
          have e1 : clB i x = u := by rw [clB, if_neg (by omega), if_neg (by omega), hu]
          have b4 : IntKind.u8.wrap (x.toNat : Int) = bt u := byteN x.toNat u (by rw [hu])
          have l5 : ¬ (0 : Int) < i := by omega
          rw [e1] at ht
          have HT := Lib.hid ht
          have A2 := At.alloc_new wr 5 #[Value.int .u8 (bt u)]
          have hi0 : ¬ 0 < i := by omega
          clear ht hu e1 hm hx8 hp
          go_wp2_with (first
            | (at_builtin; refine wpList_append_own _ rfl _ _ _ rfl w.heap.size 5 iI (.int .u8 0) 1 1 Tryd.underlying35 hiI hz0 hz1 hz2 rfl (by decide) _ i _ rfl (World.ownsRow.alloc h0 _) ⟨wr.heap.size, 0, none⟩ 1 1 (byteCells [u]) rfl rfl (by intro j u' hj; rw [addr_add', Nat.zero_add]; exact (A2.cell j).trans hj) (byteCells_one _) (by simp [maxLen]; omega) (by omega) (by simp; omega) ?_; intro v2 w2 o2 gr2 _)
            | fail)
          refine ⟨⟨i + 1, by omega, by simp, ?_, ?_⟩, by simp only [RowKit.intOf]; omega⟩
          · rw [HT.out]
            simpa [byteCells] using o2
          · refine (hF.alloc (by omega) _).grown gr2 (by simp; omega) ?_
            intro x hx
            exact (h0.lt x hx).1
      · have r1 : ∀ t, binOp .rem t (.int .i64 (i : Int)) (.int .i64 4) = pure (.int .i64 1) := fun t => by
          have := remJ i 4 (by omega) t
          rw [show i % 4 = 1 by omega] at this
          exact this
        obtain ⟨u, hu⟩ : ∃ u, u = x := ⟨_, rfl⟩
        have e1 : clB i x = u := by rw [clB, if_neg (by omega), if_neg (by omega), hu]
        have b4 : IntKind.u8.wrap (x.toNat : Int) = bt u := byteN x.toNat u (by rw [hu])
        rw [e1] at ht
        have HT := Lib.hid ht
        have A2 := At.alloc_new wr 5 #[Value.int .u8 (bt u)]
        clear ht hu e1 hm hx8
        go_wp2_with (first
          | (at_builtin; refine wpList_append_own _ rfl _ _ _ rfl w.heap.size 5 iI (.int .u8 0) 1 1 Tryd.underlying35 hiI hz0 hz1 hz2 rfl (by decide) _ i _ rfl (World.ownsRow.alloc h0 _) ⟨wr.heap.size, 0, none⟩ 1 1 (byteCells [u]) rfl rfl (by intro j u' hj; rw [addr_add', Nat.zero_add]; exact (A2.cell j).trans hj) (byteCells_one _) (by simp [maxLen]; omega) (by omega) (by simp; omega) ?_; intro v2 w2 o2 gr2 _)
          | fail)
        refine ⟨⟨i + 1, by omega, by simp, ?_, ?_⟩, by simp only [RowKit.intOf]; omega⟩
        · rw [HT.out]
          simpa [byteCells] using o2
        · refine (hF.alloc (by omega) _).grown gr2 (by simp; omega) ?_
          intro x hx
          exact (h0.lt x hx).1
      · have r1 : ∀ t, binOp .rem t (.int .i64 (i : Int)) (.int .i64 4) = pure (.int .i64 2) := fun t => by
          have := remJ i 4 (by omega) t
          rw [show i % 4 = 2 by omega] at this
          exact this
        obtain ⟨u, hu⟩ : ∃ u, u = x := ⟨_, rfl⟩
        have e1 : clB i x = u := by rw [clB, if_neg (by omega), if_neg (by omega), hu]
        have b4 : IntKind.u8.wrap (x.toNat : Int) = bt u := byteN x.toNat u (by rw [hu])
        rw [e1] at ht
        have HT := Lib.hid ht
        have A2 := At.alloc_new wr 5 #[Value.int .u8 (bt u)]
        clear ht hu e1 hm hx8
        go_wp2_with (first
          | (at_builtin; refine wpList_append_own _ rfl _ _ _ rfl w.heap.size 5 iI (.int .u8 0) 1 1 Tryd.underlying35 hiI hz0 hz1 hz2 rfl (by decide) _ i _ rfl (World.ownsRow.alloc h0 _) ⟨wr.heap.size, 0, none⟩ 1 1 (byteCells [u]) rfl rfl (by intro j u' hj; rw [addr_add', Nat.zero_add]; exact (A2.cell j).trans hj) (byteCells_one _) (by simp [maxLen]; omega) (by omega) (by simp; omega) ?_; intro v2 w2 o2 gr2 _)
          | fail)
        refine ⟨⟨i + 1, by omega, by simp, ?_, ?_⟩, by simp only [RowKit.intOf]; omega⟩
        · rw [HT.out]
          simpa [byteCells] using o2
        · refine (hF.alloc (by omega) _).grown gr2 (by simp; omega) ?_
          intro x hx
          exact (h0.lt x hx).1
      · have r1 : ∀ t, binOp .rem t (.int .i64 (i : Int)) (.int .i64 4) = pure (.int .i64 3) := fun t => by
          have := remJ i 4 (by omega) t
          rw [show i % 4 = 3 by omega] at this
          exact this
        obtain ⟨u, hu⟩ : ∃ u, u = x &&& 15 := ⟨_, rfl⟩
        have e1 : clB i x = u := by rw [clB, if_pos (by omega), hu]
        have d1 : ∀ t, binOp .rem t (.int .i64 (x.toNat : Int)) (.int .i64 16) = pure (.int .i64 ((x.toNat % 16 : Nat) : Int)) := fun t => remJ x.toNat 16 (by omega) t
        obtain ⟨y, hy⟩ : ∃ y, y = x.toNat % 16 := ⟨_, rfl⟩
        rw [← hy] at d1
        have b4 : IntKind.u8.wrap (y : Int) = bt u := byteN y u (by rw [hu, and15, hy])
        clear hy
        rw [e1] at ht
        have HT := Lib.hid ht
        have A2 := At.alloc_new wr 5 #[Value.int .u8 (bt u)]
        clear ht hu e1 hm hx8
        go_wp2_with (first
          | (at_builtin; refine wpList_append_own _ rfl _ _ _ rfl w.heap.size 5 iI (.int .u8 0) 1 1 Tryd.underlying35 hiI hz0 hz1 hz2 rfl (by decide) _ i _ rfl (World.ownsRow.alloc h0 _) ⟨wr.heap.size, 0, none⟩ 1 1 (byteCells [u]) rfl rfl (by intro j u' hj; rw [addr_add', Nat.zero_add]; exact (A2.cell j).trans hj) (byteCells_one _) (by simp [maxLen]; omega) (by omega) (by simp; omega) ?_; intro v2 w2 o2 gr2 _)
          | fail)
        refine ⟨⟨i + 1, by omega, by simp, ?_, ?_⟩, by simp only [RowKit.intOf]; omega⟩
        · rw [HT.out]
          simpa [byteCells] using o2
        · refine (hF.alloc (by omega) _).grown gr2 (by simp; omega) ?_
          intro x hx
          exact (h0.lt x hx).1
    · obtain rfl : i = 16 := by omega
      have l1 : ¬ ((16 : Nat) : Int) < 16 := by omega
      rw [List.take_of_length_le (by rw [HL.out.2.2.2]; omega)] at h0
      have hcv := run_strOwn (P := Tryd.prog) Tryd.underlying35 Tryd.underlying5 Tryd.underlying9 h0
      go_wp2_with fail
      go_ret
      exact ⟨rfl, Fr.ofBelow hF⟩
end Go.Proofs.YtichgiecohhmgaaDoor
namespace Go.Proofs.YtichgiecohhmgaaDoor
open Go.RowKit Go.Lib Go.Joins Base
set_option linter.unusedVariables false
set_option linter.unusedSimpArgs false

/-- What was taken in, block by block, the last one as it is. -/
def docUp (r : Nat) (T : List UInt8) : Nat → Nat
  | 0 => 0
  | i + 1 => ((docUp r T i + (leN ((T.drop (16 * i)).take 16) + 256 ^ ((T.drop (16 * i)).take 16).length)) * r) % pN
theorem docUp_lt (r : Nat) (T : List UInt8) (i : Nat) : docUp r T i < pN := by
  cases i with
  | zero => show 0 < pN; decide
  | succ i => exact Nat.mod_lt _ (by decide)
theorem docUp_acc (r : Nat) (T : List UInt8) : ∀ i, 16 * i ≤ T.length → docUp r T i = accN r T i
  | 0, _ => rfl
  | i + 1, h => by
    have e : ((T.drop (16 * i)).take 16).length = 16 := by simp; omega
    rw [docUp, accN, docUp_acc r T i (by omega), e]
theorem docUp_last (r : Nat) (T : List UInt8) (n : Nat) (h1 : T.length ≤ 16 * n) (h2 : 16 * n < T.length + 16) : docUp r T n = lastN r T := by
  unfold lastN
  have hl := restL_len T
  by_cases h : T.length % 16 = 0
  · have : restL T = [] := List.length_eq_zero_iff.1 (by omega)
    rw [if_pos this, docUp_acc r T n (by omega), show n = T.length / 16 by omega]
  · have : restL T ≠ [] := fun h' => by rw [h'] at hl; simp at hl; omega
    rw [if_neg this, show n = T.length / 16 + 1 by omega, docUp, docUp_acc r T _ (by omega)]
    have e : (T.drop (16 * (T.length / 16))).take 16 = restL T := by
      rw [List.take_of_length_le (by simp; omega)]; rfl
    rw [e]
theorem bytes16_len (X : Nat) : (bytes16 X).length = 16 := by simp [bytes16]
theorem bytes16_take (X i : Nat) (h : i < 16) : (bytes16 X).take (i + 1) = (bytes16 X).take i ++ [UInt8.ofNat (X / 256 ^ i)] := by
  rw [List.take_add_one]
  simp [bytes16, h]
theorem low_byte (X i : Nat) : IntKind.u8.wrap ((X / 65536 ^ i % 65536 % 256 : Nat) : Int) = bt (UInt8.ofNat (X / 256 ^ (2 * i))) := by
  apply byteN
  rw [pow_256, UInt8.toNat_ofNat']
  omega
theorem high_byte (X i : Nat) : IntKind.u8.wrap ((X / 65536 ^ i % 65536 / 256 : Nat) : Int) = bt (UInt8.ofNat (X / 256 ^ (2 * i + 1))) := by
  apply byteN
  rw [Nat.pow_succ, pow_256, ← Nat.div_div_eq_div_mul, UInt8.toNat_ofNat']
  omega
theorem extract_list (s : ByteArray) (a b : Nat) : (s.extract a b).data.toList = (s.data.toList.drop a).take (b - a) := by
  simp [ByteArray.data_extract, Array.toList_extract]
/-- The document's tag under a key of 32 bytes. -/
def docTag (K T : List UInt8) : List UInt8 := bytes16 (lastN (leN (clampUp (K.take 16))) T + leN (K.drop 16))
theorem docTag_is (K T : List UInt8) (h : K.length = 32) : docTag K T = tagL K T := (tag_val K T h).symm
end Go.Proofs.YtichgiecohhmgaaDoor
namespace Go.Proofs.YtichgiecohhmgaaDoor
open Go.RowKit Go.Lib Go.Joins Base
set_option linter.unusedVariables false
set_option linter.unusedSimpArgs false

set_option maxRecDepth 100000 in
set_option maxHeartbeats 1000000 in
theorem rtag_any (k t : ByteArray) (hk : k.size = 32) (ht : t.size ≤ 4611686018427387904) (w : World) :
    Calls Tryd.prog 51 #[.string k, .string t] w fun e w' => e = .returned (.tuple #[.string ⟨(docTag k.data.toList t.data.toList).toArray⟩, .int .i64 0]) ∧ Fr [] w w' := by
  have hi5 : (Tryd.prog.info? 5).map (fun i => (i.zero, i.size, i.bytes)) = some (some (.int .u8 0), 1, 1) := by kernel_rfl
  obtain ⟨iI, hiI, hz0, hz1, hz2⟩ := info_parts hi5
  have hkl : k.data.toList.length = 32 := by simpa using hk
  have htl : t.data.toList.length = t.size := by simp
  have c1 := fun w => clamped_any k (by omega) (by omega) w
  obtain ⟨C, hC⟩ : ∃ C : ByteArray, C = ⟨(clampUp (k.data.toList.take 16)).toArray⟩ := ⟨_, rfl⟩
  have hCl : C.data.toList = clampUp (k.data.toList.take 16) := by rw [hC]
  have hCs : C.size = 16 := by
    have e : C.data.toList.length = 16 := by rw [hCl, clampUp_len, List.length_take, hkl]; rfl
    simpa using e
  have c2 := fun w => number_any C 0 (by omega) (by omega) w
  obtain ⟨r, hr⟩ : ∃ r, r = leN (clampUp (k.data.toList.take 16)) := ⟨_, rfl⟩
  have hr1 : r < 340282366920938463463374607431768211456 := by
    have := leN_lt C.data.toList
    rw [hCl, clampUp_len, List.length_take, hkl] at this
    rw [hr]
    exact this
  rw [← hC] at c1
  rw [hCl, ← hr, Nat.mul_zero, Nat.add_zero] at c2
  have hsr := dsz r
  have hor := dol r
  have hnr := don r
  have l0 : (k.size : Int) = 32 := by omega
  have HT := Lib.hid (And.intro hr (And.intro hr1 (And.intro hkl (And.intro htl hk))))
  clear hr hr1 hkl htl hC hCl hCs hk
  go_enter Tryd.func51, Tryd.ntmps51
  go_upto_region 4 with (first
    | (go_at_call 70; refine (c1 _).mono ?_; clear c1; rintro e w1 ⟨rfl, f1⟩)
    | (go_at_call 69; refine (c2 _).mono ?_; clear c2; rintro e w2 ⟨rfl, f2⟩; have R0 := At.alloc_new w2 113 z24.toArray)
    | (refine wpList_store_row rfl _ (.tmp 6) _ rfl _ _ rfl rfl _ _ R0.out hsr hor hnr ?_; simp only [Act.put])
    | fail)
  have R1 := R0.setRow (ncells (dg r)).toArray
  rw [List.toList_toArray] at R1
  have F1 := ((f1.trans f2).trans (Fr.alloc [] w2 (.cells z24.toArray 113))).new (S := [w2.heap.size]) (Fr.setRow [w2.heap.size] _ w2.heap.size (ncells (dg r)).toArray (.inl (by simp))) (by simp; exact (f1.trans f2).size)
  have hp6 : w.heap.size ≤ w2.heap.size := (f1.trans f2).size
  obtain ⟨p6, hp⟩ : ∃ p, p = w2.heap.size := ⟨_, rfl⟩
  rw [← hp] at R1 F1 hp6
  change Code.wp _ _ _ _ ((w2.alloc (.cells z24.toArray 113)).setRow w2.heap.size (ncells (dg r)).toArray)
  rw [← hp]
  generalize (w2.alloc (.cells z24.toArray 113)).setRow p6 (ncells (dg r)).toArray = W4 at R1 F1 ⊢
  clear hp R0 f1 f2 hor hnr
  obtain ⟨p7, hp7⟩ : ∃ p, p = W4.heap.size := ⟨_, rfl⟩
  have A1 : At (W4.alloc (.cells z24.toArray 113)) p7 113 (ncells (dg (docUp r t.data.toList 0))) := by
    have := At.alloc_new W4 113 z24.toArray
    rw [List.toList_toArray, ← hp7] at this
    rw [docUp, ← z24_dg]
    exact this
  have R2 := R1.alloc (.cells z24.toArray 113)
  have F2 := F1.trans (Fr.alloc [] W4 (.cells z24.toArray 113))
  have h67 : w.heap.size ≤ p7 ∧ p6 ≠ p7 := ⟨by rw [hp7]; exact F1.size, by have := R1.lt; omega⟩
  go_upto_region 6 with fail
  change Code.wp _ _ _ _ (W4.alloc (.cells z24.toArray 113))
  rw [← hp7]
  generalize W4.alloc (.cells z24.toArray 113) = W5 at A1 R2 F2 ⊢
  have HP := Lib.hid (And.intro hp6 h67)
  clear hp7 R1 F1 hp6 h67
  go_loopw [8] (fun v wr => ∃ i : Nat, 16 * i < t.size + 16 ∧ v = .int .i64 ((16 * i : Nat) : Int) ∧ At wr p6 113 (ncells (dg r)) ∧ At wr p7 113 (ncells (dg (docUp r t.data.toList i))) ∧ Fr [] w wr) (fun v _ => t.size + 16 - (RowKit.intOf v).toNat)
  case atStart => exact ⟨0, by omega, rfl, R2, A1, F2⟩
  case round =>
    clear R2 A1 F2
    obtain ⟨i, hi, rfl, hR, hA, hF⟩ := hrel
    obtain ⟨a, ha⟩ : ∃ a, a = 16 * i := ⟨_, rfl⟩
    rw [← ha] at hi ⊢
    by_cases hl : a < t.size
    · have l1 : (a : Int) < t.size := by omega
      have w2 : IntKind.i64.wrap ((a : Int) + 16) = ((a + 16 : Nat) : Int) := by rw [IntWalk.i64_in _ (by omega)]; omega
      have HA := Lib.hid ha
      clear ha
      obtain ⟨e, he⟩ : ∃ e, e = min (a + 16) t.size := ⟨_, rfl⟩
      go_upto_if 29 with fail
      go_cut [9] from 18 to 41 (fun v9 wx => wr = wx ∧ v9 = Value.int .i64 (e : Int))
      case first =>
        by_cases hb : t.size < a + 16
        · have l2 : (t.size : Int) < ((a + 16 : Nat) : Int) := by omega
          have he2 : t.size = e := by omega
          clear he
          go_wp2_with fail
          go_meet
          case rel => exact ⟨rfl, by first | (congr 1; done) | (congr 1; omega)⟩
        · have l2 : ¬ (t.size : Int) < ((a + 16 : Nat) : Int) := by omega
          have he2 : e = a + 16 := by omega
          clear he
          go_wp2_with fail
          go_meet
          case rel => exact ⟨rfl, by first | (congr 1; done) | (congr 1; omega)⟩
      case rest =>
        obtain ⟨rfl, rfl⟩ := hcut
        have hae : a ≤ e ∧ e ≤ t.size ∧ e - a ≤ 16 := by omega
        obtain ⟨X, hX⟩ : ∃ X, X = (t.data.toList.drop (16 * i)).take 16 := ⟨_, rfl⟩
        have hXe : (t.extract a e).data.toList = X := by
          rw [extract_list, hX, ← HA.out]
          rcases Nat.lt_or_ge t.size (a + 16) with h' | h'
          · rw [show e - a = t.size - a by omega, List.take_of_length_le (by rw [List.length_drop, HT.out.2.2.2.1]; exact Nat.le_refl _), List.take_of_length_le (by rw [List.length_drop, HT.out.2.2.2.1]; omega)]
          · rw [show e - a = 16 by omega]
        have hXs : (t.extract a e).size = X.length := by rw [← hXe]; exact (by simp : ∀ s : ByteArray, s.size = s.data.toList.length) _
        have hX16 : X.length ≤ 16 := by rw [hX, List.length_take]; omega
        obtain ⟨Y, hY⟩ : ∃ Y, Y = t.extract a e := ⟨_, rfl⟩
        rw [← hY] at hXe hXs
        have cN := fun w => number_any Y 1 (by omega) (by omega) w
        rw [hXe, hXs, Nat.mul_one] at cN
        obtain ⟨A, hAA⟩ : ∃ A, A = docUp r t.data.toList i := ⟨_, rfl⟩
        have hAl : A < pN := by rw [hAA]; exact docUp_lt _ _ _
        have hBl : leN X + 256 ^ X.length < 680564733841876926926749214863536422912 := by
          have h1 := leN_lt X
          have h2 : 256 ^ X.length ≤ 256 ^ 16 := Nat.pow_le_pow_right (by omega) hX16
          omega
        have hst : docUp r t.data.toList (i + 1) = ((A + (leN X + 256 ^ X.length)) * r) % pN := by rw [docUp, ← hX, ← hAA]
        obtain ⟨B, hB⟩ : ∃ B, B = leN X + 256 ^ X.length := ⟨_, rfl⟩
        rw [← hB] at cN hBl hst
        have hr1 := HT.out.2.1
        unfold pN at hAl hst
        have cA := fun w => add_any A B w
        have hAB : A + B < 65536 ^ 9 := by omega
        have hr9 : r < 65536 ^ 9 := by omega
        have hM : (A + B) * r < 65536 ^ 24 := by
          calc (A + B) * r < 65536 ^ 9 * 65536 ^ 9 := Nat.mul_lt_mul'' hAB hr9
            _ < _ := by omega
        have cT := fun w => times_any (A + B) r hr9 hAB w
        have cM := fun w => modulo_any ((A + B) * r) hM w
        rw [← hst] at cM
        obtain ⟨D, hD⟩ : ∃ D, D = docUp r t.data.toList (i + 1) := ⟨_, rfl⟩
        rw [← hAA] at hA
        rw [← hD] at cM
        rw [hY] at cN
        have hsD := dsz D
        have l2 : (a : Int) ≤ e := by omega
        have l3 : (e : Int) ≤ t.size := by omega
        have l4 : (0 : Int) ≤ a := by omega
        have hi2 : 16 * (i + 1) < t.size + 16 ∧ a + 16 = 16 * (i + 1) := by have := HA.out; omega
        have HD := Lib.hid (And.intro hD hi2)
        clear hXe hXs hX hX16 hAl hBl hst hAA hB hr1 hAB hr9 hM hD he hae hi2 hY
        go_upto_region 11 with fail
        refine wp_region_until (fun w' => (loadVar 113 ⟨p6, 0, none⟩).run Tryd.prog w' = .ok (.agg (ncells (dg r)).toArray) w' ∧ Fr [p7] wr w') (fun w' => (loadVar 113 ⟨p7, 0, none⟩).run Tryd.prog w' = .ok (.agg (ncells (dg A)).toArray) w') 10 (by rfl) ?_
        have g0 : ∀ w', Fr [p7] wr w' → (loadVar 113 ⟨p6, 0, none⟩).run Tryd.prog w' = .ok (.agg (ncells (dg r)).toArray) w' ∧ Fr [p7] wr w' := fun w' f => ⟨num_run (dg_len _) (f.keep hR (by simpa using HP.out.2.2)), f⟩
        have g1 : ∀ w', Fr [] wr w' → (loadVar 113 ⟨p7, 0, none⟩).run Tryd.prog w' = .ok (.agg (ncells (dg A)).toArray) w' := fun w' f => num_run (dg_len _) (f.keep hA (by simp))
        refine until_s1 0 (v := .agg (ncells (dg A)).toArray) rfl (by kernel_rfl) (fun _ _ _ h => h) (Or.inl ⟨by rfl, fun w' hS => exec_loadN rfl rfl hS.2⟩) (g0 _ (Fr.drew _ _)) (fun _ => g1 _ (Fr.drew _ _)) ?_
        refine until_s0 7 (v := .agg (ncells (dg r)).toArray) rfl (by kernel_rfl) (fun _ _ _ h => h) (Or.inl ⟨by rfl, fun w' hS => exec_loadN rfl rfl hS.1⟩) (g0 _ (Fr.drew _ _)) (fun _ => g1 _ (Fr.drew _ _)) ?_
        try simp only [Act.put, List.setIfInBounds_toArray, List.set_cons_zero, List.set_cons_succ]
        have s0 := g0 _ (Fr.drew [p7] wr)
        have s1 := g1 _ (Fr.drew [] wr)
        refine until_s0 1 (v := ?_) rfl (by kernel_rfl) (fun _ _ _ h => h) (Or.inl ⟨by rfl, ?_⟩) (by assumption) (fun h => by first | assumption | exact absurd (h : true = false) (by decide)) ?_
        rotate_left
        · intro w hSw; (try dsimp only at hSw); (try go_simp); (try with_reducible rfl)
        try simp only [Act.put, List.setIfInBounds_toArray, List.set_cons_zero, List.set_cons_succ]
        refine until_s0 2 (v := ?_) rfl (by kernel_rfl) (fun _ _ _ h => h) (Or.inl ⟨by rfl, ?_⟩) (by assumption) (fun h => by first | assumption | exact absurd (h : true = false) (by decide)) ?_
        rotate_left
        · intro w hSw; (try dsimp only at hSw); (try go_simp); (try with_reducible rfl)
        try simp only [Act.put, List.setIfInBounds_toArray, List.set_cons_zero, List.set_cons_succ]
        refine until_s0 3 (v := ?_) rfl (by kernel_rfl) (fun _ _ _ h => h) (Or.inl ⟨by rfl, ?_⟩) (by assumption) (fun h => by first | assumption | exact absurd (h : true = false) (by decide)) ?_
        rotate_left
        · intro w hSw; (try dsimp only at hSw); (try go_simp); (try with_reducible rfl)
        try simp only [Act.put, List.setIfInBounds_toArray, List.set_cons_zero, List.set_cons_succ]
        refine until_s0 4 (v := ?_) rfl (by kernel_rfl) (fun _ _ _ h => h) (Or.inl ⟨by rfl, ?_⟩) (by assumption) (fun h => by first | assumption | exact absurd (h : true = false) (by decide)) ?_
        rotate_left
        · intro w hSw; (try dsimp only at hSw); (try go_simp); (try with_reducible rfl)
        try simp only [Act.put, List.setIfInBounds_toArray, List.set_cons_zero, List.set_cons_succ]
        refine until_sole 5 rfl (by kernel_rfl) (by rfl) ?_
        intro K' hK
        go_simp
        go_at_call 69
        refine (cN _).mono ?_
        clear cN
        rintro _ x1 ⟨rfl, hx1⟩
        go_wp2_with fail
        have fx1 := (Fr.drew [] wr).trans hx1
        refine hK _ _ (g0 _ (fx1.mono (by simp))) (fun _ => g1 _ fx1) ?_
        clear hK hx1
        refine until_sole 6 rfl (by kernel_rfl) (by rfl) ?_
        intro K' hK
        go_simp
        go_at_call 73
        refine (cA _).mono ?_
        clear cA
        rintro _ x2 ⟨rfl, hx2⟩
        go_wp2_with fail
        have fx2 := fx1.trans hx2
        refine hK _ _ (g0 _ (fx2.mono (by simp))) (fun _ => g1 _ fx2) ?_
        clear hK hx2
        refine until_sole 8 rfl (by kernel_rfl) (by rfl) ?_
        intro K' hK
        go_simp
        go_at_call 72
        refine (cT _).mono ?_
        clear cT
        rintro _ x3 ⟨rfl, hx3⟩
        go_wp2_with fail
        have fx3 := fx2.trans hx3
        refine hK _ _ (g0 _ (fx3.mono (by simp))) (fun _ => g1 _ fx3) ?_
        clear hK hx3
        refine until_sole 9 rfl (by kernel_rfl) (by rfl) ?_
        intro K' hK
        go_simp
        go_at_call 71
        refine (cM _).mono ?_
        clear cM
        rintro _ x4 ⟨rfl, hx4⟩
        go_wp2_with fail
        have fx4 := fx3.trans hx4
        refine hK _ _ (g0 _ (fx4.mono (by simp))) (fun _ => g1 _ fx4) ?_
        clear hK hx4
        refine until_sole 10 rfl (by kernel_rfl) (by rfl) ?_
        intro K' hK
        have hP2 := fx4.keep hA (by simp)
        have hP3 := hP2.setRow (ncells (dg D)).toArray
        rw [List.toList_toArray] at hP3
        have fy := (fx4.mono (S' := [p7]) (by simp)).trans (Fr.setRow [p7] _ p7 (ncells (dg D)).toArray (.inl (by simp)))
        refine wp_store_row _ _ _ rfl _ _ rfl rfl _ _ hP2.out hsD (by rw [List.size_toArray, List.size_toArray, ncells_len, ncells_len, dg_len, dg_len]) (don D) ?_
        refine hK _ _ (g0 _ fy) (fun h => absurd (h : true = false) (by decide)) ?_
        clear hK
        refine until_done (by kernel_rfl) ?_ _
        have R4 := fy.keep hR (by simpa using HP.out.2.2)
        have F4 := hF.new fy (by simp; exact HP.out.2.1)
        have w3 : IntKind.i64.wrap ((a : Int) + 16) = ((a + 16 : Nat) : Int) := by rw [IntWalk.i64_in _ (by omega)]; omega
        clear hA hR hF g0 g1 hP2 s0 s1 fx1 fx2 fx3 fx4 fy
        go_wp2_with fail
        exact ⟨⟨i + 1, HD.out.2.1, by rw [← HD.out.2.2]; simp, R4, by rw [← HD.out.1]; exact hP3, F4⟩, by simp only [RowKit.intOf]; omega⟩
    · have l1 : ¬ (a : Int) < t.size := by omega
      obtain ⟨A, hAA⟩ : ∃ A, A = docUp r t.data.toList i := ⟨_, rfl⟩
      have hlast := docUp_last r t.data.toList i (by rw [HT.out.2.2.2.1]; omega) (by rw [HT.out.2.2.2.1]; omega)
      rw [← hAA] at hA hlast
      obtain ⟨Y, hY⟩ : ∃ Y, Y = k.extract 16 k.size := ⟨_, rfl⟩
      have hYl : Y.data.toList = k.data.toList.drop 16 := by
        rw [hY, extract_list]
        exact List.take_of_length_le (by rw [List.length_drop, HT.out.2.2.1, HT.out.2.2.2.2]; exact Nat.le_refl _)
      have hYs : Y.size = 16 := by rw [hY, ByteArray.size_extract, HT.out.2.2.2.2]; rfl
      have cN := fun w => number_any Y 0 (by omega) (by omega) w
      rw [Nat.mul_zero, Nat.add_zero] at cN
      obtain ⟨B, hB⟩ : ∃ B, B = leN Y.data.toList := ⟨_, rfl⟩
      rw [← hB] at cN
      have cA := fun w => add_any A B w
      obtain ⟨X, hX⟩ : ∃ X, X = A + B := ⟨_, rfl⟩
      have hdoc : docTag k.data.toList t.data.toList = bytes16 X := by rw [docTag, ← hYl, ← HT.out.1, ← hlast, ← hB, hX]
      rw [← hX] at cA
      have hsX := dsz X
      rw [hY] at cN
      have l2 : (16 : Int) ≤ k.size := by have := HT.out.2.2.2.2; omega
      have HD := Lib.hid hdoc
      clear hAA hlast hYl hYs hY hB hX hdoc ha
      go_upto_region 12 with fail
      refine wp_region_until (fun w' => Fr [p7] wr w') (fun w' => (loadVar 113 ⟨p7, 0, none⟩).run Tryd.prog w' = .ok (.agg (ncells (dg A)).toArray) w') 5 (by rfl) ?_
      have g0 : ∀ w', Fr [p7] wr w' → Fr [p7] wr w' := fun w' f => f
      have g1 : ∀ w', Fr [] wr w' → (loadVar 113 ⟨p7, 0, none⟩).run Tryd.prog w' = .ok (.agg (ncells (dg A)).toArray) w' := fun w' f => num_run (dg_len _) (f.keep hA (by simp))
      refine until_s1 0 (v := .agg (ncells (dg A)).toArray) rfl (by kernel_rfl) (fun _ _ _ h => h) (Or.inl ⟨by rfl, fun w' hS => exec_loadN rfl rfl hS.2⟩) (g0 _ (Fr.drew _ _)) (fun _ => g1 _ (Fr.drew _ _)) ?_
      try simp only [Act.put, List.setIfInBounds_toArray, List.set_cons_zero, List.set_cons_succ]
      have s0 := g0 _ (Fr.drew [p7] wr)
      have s1 := g1 _ (Fr.drew [] wr)
      refine until_s0 1 (v := ?_) rfl (by kernel_rfl) (fun _ _ _ h => h) (Or.inl ⟨by rfl, ?_⟩) (by assumption) (fun h => by first | assumption | exact absurd (h : true = false) (by decide)) ?_
      rotate_left
      · intro w hSw; (try dsimp only at hSw); (try go_simp); (try with_reducible rfl)
      try simp only [Act.put, List.setIfInBounds_toArray, List.set_cons_zero, List.set_cons_succ]
      refine until_s0 2 (v := ?_) rfl (by kernel_rfl) (fun _ _ _ h => h) (Or.inl ⟨by rfl, ?_⟩) (by assumption) (fun h => by first | assumption | exact absurd (h : true = false) (by decide)) ?_
      rotate_left
      · intro w hSw; (try dsimp only at hSw); (try go_simp); (try with_reducible rfl)
      try simp only [Act.put, List.setIfInBounds_toArray, List.set_cons_zero, List.set_cons_succ]
      refine until_sole 3 rfl (by kernel_rfl) (by rfl) ?_
      intro K' hK
      go_simp
      go_at_call 69
      refine (cN _).mono ?_
      clear cN
      rintro _ x1 ⟨rfl, hx1⟩
      go_wp2_with fail
      have fx1 := (Fr.drew [] wr).trans hx1
      refine hK _ _ (g0 _ (fx1.mono (by simp))) (fun _ => g1 _ fx1) ?_
      clear hK hx1
      refine until_sole 4 rfl (by kernel_rfl) (by rfl) ?_
      intro K' hK
      go_simp
      go_at_call 73
      refine (cA _).mono ?_
      clear cA
      rintro _ x2 ⟨rfl, hx2⟩
      go_wp2_with fail
      have fx2 := fx1.trans hx2
      refine hK _ _ (g0 _ (fx2.mono (by simp))) (fun _ => g1 _ fx2) ?_
      clear hK hx2
      refine until_sole 5 rfl (by kernel_rfl) (by rfl) ?_
      intro K' hK
      have hP2 := fx2.keep hA (by simp)
      have hP3 := hP2.setRow (ncells (dg X)).toArray
      rw [List.toList_toArray] at hP3
      have fy := (fx2.mono (S' := [p7]) (by simp)).trans (Fr.setRow [p7] _ p7 (ncells (dg X)).toArray (.inl (by simp)))
      refine wp_store_row _ _ _ rfl _ _ rfl rfl _ _ hP2.out hsX (by rw [List.size_toArray, List.size_toArray, ncells_len, ncells_len, dg_len, dg_len]) (don X) ?_
      refine hK _ _ (g0 _ fy) (fun h => absurd (h : true = false) (by decide)) ?_
      clear hK
      refine until_done (by kernel_rfl) ?_ _
      have F4 := hF.new fy (by simp; exact HP.out.2.1)
      clear hA hR hF g0 g1 hP2 s0 s1 fx1 fx2 fy
      generalize x2.setRow p7 (ncells (dg X)).toArray = W6 at hP3 F4 ⊢
      go_upto_region 15 with fail
      go_loopw [10, 11] (fun v10 v11 wr => ∃ j : Nat, j ≤ 8 ∧ v11 = .int .i64 j ∧ wr.ownsRow W6.heap.size 5 1 v10 (2 * j) (byteCells ((bytes16 X).take (2 * j))) ∧ Below W6.heap.size W6 wr) (fun _ v _ => 8 - (RowKit.intOf v).toNat)
      case atStart => exact ⟨0, by omega, rfl, World.ownsRow_nil _ _ _ _, Below.refl _ _⟩
      case round =>
        obtain ⟨j, hj, rfl, h0, hB⟩ := hrel
        have hsz := hB.size
        by_cases hlj : j < 8
        · have l3 : (j : Int) < 8 := by omega
          have l4 : (j : Int) < 24 := by omega
          have w2 : IntKind.i64.wrap ((j : Int) + 1) = ((j + 1 : Nat) : Int) := by rw [IntWalk.i64_in _ (by omega)]; omega
          have P1 := (Fr.ofBelow hB).keep hP3 (by simp)
          have cc := fun {w : World} (h : At w p7 113 (ncells (dg X))) => (h.cell j).trans (dgc X j (by omega))
          have p1 := cc P1
          have u1 := low_byte X j
          have u2 := high_byte X j
          have ht1 := bytes16_take X (2 * j) (by omega)
          have ht2 := bytes16_take X (2 * j + 1) (by omega)
          have hyl : X / 65536 ^ j % 65536 < 9223372036854775808 := Nat.lt_trans (Nat.mod_lt _ (by omega)) (by omega)
          generalize X / 65536 ^ j % 65536 = y at cc p1 u1 u2 hyl
          have e1 : ∀ t, binOp .rem t (.int .i64 (y : Int)) (.int .i64 256) = pure (.int .i64 ((y % 256 : Nat) : Int)) := fun t => remJ y 256 (by omega) t
          have hys : y < 65536 ∨ True := .inr trivial
          have e2 : ∀ t, binOp .quo t (.int .i64 (y : Int)) (.int .i64 256) = pure (.int .i64 ((y / 256 : Nat) : Int)) := fun t => quoJ y 256 (by omega) hyl t
          generalize ((y % 256 : Nat) : Int) = y1 at e1 u1
          generalize ((y / 256 : Nat) : Int) = y2 at e2 u2
          generalize UInt8.ofNat (X / 256 ^ (2 * j)) = b1 at u1 ht1
          generalize UInt8.ofNat (X / 256 ^ (2 * j + 1)) = b2 at u2 ht2
          have A2 := At.alloc_new wr 5 #[Value.int .u8 (bt b1)]
          have HT := Lib.hid (And.intro ht1 ht2)
          clear ht1 ht2 hys hyl
          go_wp2_with (first
            | (at_builtin; refine wpList_append_own _ rfl _ _ _ rfl W6.heap.size 5 iI (.int .u8 0) 1 1 Tryd.underlying35 hiI hz0 hz1 hz2 rfl (by decide) _ (2 * j + 1) _ rfl (World.ownsRow.alloc o2 _) ⟨w2.heap.size, 0, none⟩ 1 1 (byteCells [b2]) rfl rfl (by intro j u' hj; rw [addr_add', Nat.zero_add]; exact (A3.cell j).trans hj) (byteCells_one _) (by simp [maxLen]; omega) (by omega) (by simp; omega) ?_; intro v3 w3 o3 gr3 _)
            | (at_builtin; refine wpList_append_own _ rfl _ _ _ rfl W6.heap.size 5 iI (.int .u8 0) 1 1 Tryd.underlying35 hiI hz0 hz1 hz2 rfl (by decide) _ (2 * j) _ rfl (World.ownsRow.alloc h0 _) ⟨wr.heap.size, 0, none⟩ 1 1 (byteCells [b1]) rfl rfl (by intro j u' hj; rw [addr_add', Nat.zero_add]; exact (A2.cell j).trans hj) (byteCells_one _) (by simp [maxLen]; omega) (by omega) (by simp; omega) ?_; intro v2 w2 o2 gr2 _; have hB2 := (hB.alloc (by omega) (.cells #[Value.int .u8 (bt b1)] 5)).grown gr2 (by simp; omega) (fun x hx => (h0.lt x hx).1); have p2 := cc ((Fr.ofBelow hB2).keep hP3 (by simp)); have A3 := At.alloc_new w2 5 #[Value.int .u8 (bt b2)]; have hsz2 := hB2.size)
            | fail)
          refine ⟨⟨j + 1, by omega, by simp, ?_, ?_⟩, by simp only [RowKit.intOf]; omega⟩
          · rw [show 2 * (j + 1) = 2 * j + 1 + 1 by omega, HT.out.2, HT.out.1]
            simpa [byteCells] using o3
          · refine (hB2.alloc (by omega) _).grown gr3 (by simp; omega) ?_
            intro x hx
            exact (o2.lt x hx).1
        · obtain rfl : j = 8 := by omega
          have l3 : ¬ ((8 : Nat) : Int) < 8 := by omega
          rw [List.take_of_length_le (by rw [bytes16_len]; omega)] at h0
          have hcv := run_strOwn (P := Tryd.prog) Tryd.underlying35 Tryd.underlying5 Tryd.underlying9 h0
          go_wp2_with fail
          go_ret2
          exact ⟨by rw [HD.out]; rfl, F4.trans (Fr.ofBelow hB)⟩
end Go.Proofs.YtichgiecohhmgaaDoor
