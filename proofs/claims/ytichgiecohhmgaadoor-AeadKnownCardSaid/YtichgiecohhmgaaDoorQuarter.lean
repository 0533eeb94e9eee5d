/- What the quarter rounds of the program and of the document do. -/
import Derived.Test.YtichgiecohhmgaaDoorRows
import Derived.Test.YtichgiecohhmgaaDoorQr
namespace Go.Proofs.YtichgiecohhmgaaDoor
open Go.RowKit Go.Lib Base
set_option linter.unusedVariables false
set_option linter.unusedSimpArgs false

theorem rot (x : UInt32) (k : Int) (n : Nat) (h2 : bits .and .u64 (IntKind.u64.wrap k) 31 = n) (h3 : 0 < n) (h4 : n < 32) (w : World) :
    Calls Tryd.prog 75 #[.int .u32 (wd x), .int .i64 k] w fun e w' => e = .returned (.int .u32 (wd (rotl x n))) ∧ w = w' := by
  have hs : IntKind.u64.wrap (32 - (n:Int)) = ((32 - n : Nat) : Int) := by simp [IntKind.wrap, IntKind.bits, IntKind.signed]; omega
  have hr : bits .or .u32 (wd x * 2 ^ n % 4294967296) (wd x / 2 ^ (32 - n)) = wd (rotl x n) := rotl_walk x n h3 h4
  have hx0 := (wd_lt x).1
  have hx1 := (wd_lt x).2
  generalize hk : IntKind.u64.wrap k = ku at h2
  go_enter Tryd.func75, Tryd.ntmps75
  go_wp2
  go_ret
  exact ⟨rfl, rfl⟩

def q4 (q : UInt32 × UInt32 × UInt32 × UInt32) : Value := .tuple #[.int .u32 (wd q.1), .int .u32 (wd q.2.1), .int .u32 (wd q.2.2.1), .int .u32 (wd q.2.2.2)]
def a4 (q : UInt32 × UInt32 × UInt32 × UInt32) : Value := .agg #[.int .i64 (wd q.1), .int .i64 (wd q.2.1), .int .i64 (wd q.2.2.1), .int .i64 (wd q.2.2.2)]

set_option maxRecDepth 100000 in
set_option maxHeartbeats 1000000 in
theorem quarter_any (a b c d : UInt32) (w : World) :
    Calls Tryd.prog 58 #[.int .u32 (wd a), .int .u32 (wd b), .int .u32 (wd c), .int .u32 (wd d)] w fun e w' => e = .returned (.tuple #[.int .u32 (wd (qr a b c d).1), .int .u32 (wd (qr a b c d).2.1), .int .u32 (wd (qr a b c d).2.2.1), .int .u32 (wd (qr a b c d).2.2.2)]) ∧ w = w' := by
  go_enter Tryd.func58, Tryd.ntmps58
  go_wp2_with fail
  refine (rot _ 16 16 (by decide) (by decide) (by decide) _).mono ?_
  rintro e w' ⟨rfl, rfl⟩
  go_wp2_with fail
  refine (rot _ 12 12 (by decide) (by decide) (by decide) _).mono ?_
  rintro e w' ⟨rfl, rfl⟩
  go_wp2_with fail
  refine (rot _ 8 8 (by decide) (by decide) (by decide) _).mono ?_
  rintro e w' ⟨rfl, rfl⟩
  go_wp2_with fail
  refine (rot _ 7 7 (by decide) (by decide) (by decide) _).mono ?_
  rintro e w' ⟨rfl, rfl⟩
  go_wp2_with fail
  refine bodyPost_ret (v := q4 (qr a b c d)) (by simp [results, Tryd.results58, go_sem]; rfl) rfl ⟨rfl, rfl⟩

theorem refturn_any (x : UInt32) (n : Nat) (p : Int) (hp : p = ((2 ^ n : Nat) : Int)) (h0 : 0 < n) (hn : n < 17) (w : World) :
    Calls Tryd.prog 88 #[.int .i64 (wd x), .int .i64 p] w fun e w' => e = .returned (.int .i64 (wd (rotl x n))) ∧ w = w' := by
  have hx := x.toNat_lt
  have hr := rotl_add x n h0 (by omega)
  have hp2 : 2 ^ n ≤ 2 ^ 16 := Nat.pow_le_pow_right (by omega) (by omega)
  have hm : x.toNat * 2 ^ n ≤ 4294967295 * 65536 := Nat.mul_le_mul (by omega) hp2
  have hb := (rotl x n).toNat_lt
  generalize hq : x.toNat * 2 ^ n = q at hr hm
  have e1 : wd x * p = q := by rw [← hq, hp]; simp [wd]
  have e2 : IntKind.i64.wrap (q : Int) = q := IntWalk.i64_in _ (by omega)
  have HR := Lib.hid hr
  clear hq hr hp2 hp
  go_enter Tryd.func88, Tryd.ntmps88
  go_wp2
  go_ret
  refine ⟨congrArg (fun z => Ending.returned (.int .i64 z)) ?_, rfl⟩
  show (q : Int) % 4294967296 + q / 4294967296 = _
  unfold wd
  rw [HR.out]; simp

set_option maxRecDepth 100000 in
theorem refquarter_any (a b c d : UInt32) (w : World) :
    Calls Tryd.prog 81 #[.agg #[.int .i64 (wd a), .int .i64 (wd b), .int .i64 (wd c), .int .i64 (wd d)]] w fun e w' => e = .returned (.agg #[.int .i64 (wd (qr a b c d).1), .int .i64 (wd (qr a b c d).2.1), .int .i64 (wd (qr a b c d).2.2.1), .int .i64 (wd (qr a b c d).2.2.2)]) ∧ Fr [] w w' := by
  go_enter Tryd.func81, Tryd.ntmps81
  go_wp2_with fail
  refine (refturn_any _ 16 _ (by decide) (by decide) (by decide) _).mono ?_
  rintro e w' ⟨rfl, rfl⟩
  go_wp2_with fail
  refine (refturn_any _ 12 _ (by decide) (by decide) (by decide) _).mono ?_
  rintro e w' ⟨rfl, rfl⟩
  go_wp2_with fail
  refine (refturn_any _ 8 _ (by decide) (by decide) (by decide) _).mono ?_
  rintro e w' ⟨rfl, rfl⟩
  go_wp2_with fail
  refine (refturn_any _ 7 _ (by decide) (by decide) (by decide) _).mono ?_
  rintro e w' ⟨rfl, rfl⟩
  go_wp2_with fail
  refine bodyPost_ret (v := a4 (qr a b c d)) (by simp [results, Tryd.results81, go_sem]; rfl) rfl ⟨rfl, ?_⟩
  exact (Fr.alloc _ _ _).trans (Fr.alloc _ _ _)
end Go.Proofs.YtichgiecohhmgaaDoor
