/- The law ChachaXors walked. -/
import Derived.Test.YtmgfhamfbdaeiaaDoorXor
import Derived.Test.YtmgfhamfbdaeiaaDoorRefXor
import Derived.Test.YtmgfhamfbdaeiaaDoorLawBlocksW
namespace Go.Proofs.YtmgfhamfbdaeiaaDoor
open Go.RowKit Go.Lib Base
set_option linter.unusedVariables false
set_option linter.unusedSimpArgs false

theorem xor_key (k n d : ByteArray) (c : Int) (hk : k.size ≠ 32) (w : World) :
    Calls Tryd.prog 24 #[.string k, .int .i64 c, .string n, .string d] w fun e w' => e = .returned (.tuple #[.string ⟨#[]⟩, .int .i64 40]) ∧ Fr [] w w' := by
  go_enter Tryd.func24, Tryd.ntmps24
  go_wp2_with (first
    | (go_at_call 43; refine (sized_key k n 12 hk _).mono ?_; rintro e w' ⟨rfl, q1, rfl⟩)
    | fail)
  go_ret2
  exact ⟨rfl, Fr.drewN _ _ _⟩
theorem xor_nonce (k n d : ByteArray) (c : Int) (hk : k.size = 32) (hn : n.size ≠ 12) (w : World) :
    Calls Tryd.prog 24 #[.string k, .int .i64 c, .string n, .string d] w fun e w' => e = .returned (.tuple #[.string ⟨#[]⟩, .int .i64 41]) ∧ Fr [] w w' := by
  go_enter Tryd.func24, Tryd.ntmps24
  go_wp2_with (first
    | (go_at_call 43; refine (sized_nonce k n 12 hk hn _).mono ?_; rintro e w' ⟨rfl, q1, rfl⟩)
    | fail)
  go_ret2
  exact ⟨rfl, Fr.drewN _ _ _⟩
theorem xor_count (k n d : ByteArray) (c : Int) (hk : k.size = 32) (hn : n.size = 12) (hc : c < 0 ∨ 4294967296 ≤ c) (w : World) :
    Calls Tryd.prog 24 #[.string k, .int .i64 c, .string n, .string d] w fun e w' => e = .returned (.tuple #[.string ⟨#[]⟩, .int .i64 42]) ∧ Fr [] w w' := by
  go_enter Tryd.func24, Tryd.ntmps24
  go_wp2_with (first
    | (go_at_call 43; refine (sized_ok k n 12 hk hn _).mono ?_; rintro e w' ⟨rfl, q1, rfl⟩)
    | (go_at_call 52; refine (counted_no c hc _).mono ?_; rintro e w' ⟨rfl, q2, rfl⟩)
    | fail)
  go_ret2
  exact ⟨rfl, Fr.drewN _ _ _⟩
theorem refxor_key (k n d : ByteArray) (c : Int) (hk : k.size ≠ 32) (w : World) :
    Calls Tryd.prog 25 #[.string k, .int .i64 c, .string n, .string d] w fun e w' => e = .returned (.tuple #[.string ⟨#[]⟩, .int .i64 40]) ∧ Fr [] w w' := by
  go_enter Tryd.func25, Tryd.ntmps25
  go_wp2_with (first
    | (go_at_call 47; refine (wrong_key k n c 12 hk _).mono ?_; rintro e w' ⟨rfl, q1, rfl⟩)
    | fail)
  go_ret2
  exact ⟨rfl, Fr.drewN _ _ _⟩
theorem refxor_nonce (k n d : ByteArray) (c : Int) (hk : k.size = 32) (hn : n.size ≠ 12) (w : World) :
    Calls Tryd.prog 25 #[.string k, .int .i64 c, .string n, .string d] w fun e w' => e = .returned (.tuple #[.string ⟨#[]⟩, .int .i64 41]) ∧ Fr [] w w' := by
  go_enter Tryd.func25, Tryd.ntmps25
  go_wp2_with (first
    | (go_at_call 47; refine (wrong_nonce k n c 12 hk hn _).mono ?_; rintro e w' ⟨rfl, q1, rfl⟩)
    | fail)
  go_ret2
  exact ⟨rfl, Fr.drewN _ _ _⟩
theorem refxor_count (k n d : ByteArray) (c : Int) (hk : k.size = 32) (hn : n.size = 12) (hc : c < 0 ∨ 4294967296 ≤ c) (w : World) :
    Calls Tryd.prog 25 #[.string k, .int .i64 c, .string n, .string d] w fun e w' => e = .returned (.tuple #[.string ⟨#[]⟩, .int .i64 42]) ∧ Fr [] w w' := by
  go_enter Tryd.func25, Tryd.ntmps25
  go_wp2_with (first
    | (go_at_call 47; refine (wrong_counter k n c 12 hk hn hc _).mono ?_; rintro e w' ⟨rfl, q1, rfl⟩)
    | fail)
  go_ret2
  exact ⟨rfl, Fr.drewN _ _ _⟩
set_option maxRecDepth 100000 in
theorem xor_big (k n d : ByteArray) (hk : k.size = 32) (hn : n.size = 12) (hd : d.size ≤ 140737488351232) (c : UInt32) (hroom : 4294967296 < (d.size + 63) / 64 + c.toNat) (w : World) :
    Calls Tryd.prog 24 #[.string k, .int .i64 (wd c), .string n, .string d] w fun e w' => e = .returned (.tuple #[.string ⟨#[]⟩, .int .i64 42]) ∧ Fr [] w w' := by
  have hw := wd_lt c
  have wdc : wd c = c.toNat := rfl
  have a1 : IntKind.i64.wrap ((d.size : Int) + 64) = (d.size : Int) + 64 := IntWalk.i64_in _ (by omega)
  have a2 : IntKind.i64.wrap ((d.size : Int) + 64 - 1) = (d.size : Int) + 64 - 1 := IntWalk.i64_in _ (by omega)
  have a3 : IntKind.i64.wrap (4294967296 - wd c) = 4294967296 - wd c := IntWalk.i64_in _ (by omega)
  have a5 : 4294967296 - wd c < ((d.size : Int) + 64 - 1) / 64 := by omega
  clear hw wdc
  go_enter Tryd.func24, Tryd.ntmps24
  go_wp2_with (first
    | (go_at_call 43; refine (sized_ok k n 12 hk hn _).mono ?_; rintro e w' ⟨rfl, q1, rfl⟩)
    | (go_at_call 52; refine (counted_ok c _).mono ?_; rintro e w' ⟨rfl, q2, rfl⟩)
    | fail)
  go_ret2
  exact ⟨rfl, Fr.drewN _ _ _⟩
set_option maxRecDepth 100000 in
theorem refxor_big (k n d : ByteArray) (hk : k.size = 32) (hn : n.size = 12) (hd : d.size ≤ 140737488351232) (c : UInt32) (hroom : 4294967296 < (d.size + 63) / 64 + c.toNat) (w : World) :
    Calls Tryd.prog 25 #[.string k, .int .i64 (wd c), .string n, .string d] w fun e w' => e = .returned (.tuple #[.string ⟨#[]⟩, .int .i64 42]) ∧ Fr [] w w' := by
  have hw := wd_lt c
  have wdc : wd c = c.toNat := rfl
  have a0 : IntKind.i64.wrap ((d.size : Int) + 63) = (d.size : Int) + 63 := IntWalk.i64_in _ (by omega)
  have a1 : IntKind.i64.wrap (wd c + ((d.size : Int) + 63) / 64) = wd c + ((d.size : Int) + 63) / 64 := IntWalk.i64_in _ (by omega)
  have a5 : 4294967296 < wd c + ((d.size : Int) + 63) / 64 := by omega
  clear wdc
  go_enter Tryd.func25, Tryd.ntmps25
  go_wp2_with (first
    | (go_at_call 47; refine (wrong_ok k n (wd c) 12 hk hn hw.1 hw.2 _).mono ?_; rintro e w' ⟨rfl, q1, rfl⟩)
    | fail)
  go_ret2
  exact ⟨rfl, Fr.drewN _ _ _⟩

theorem xor_both (k n d : ByteArray) (hd : d.size ≤ 140737488351232) (x : Int) : ∃ (s : ByteArray) (c : Int), 0 ≤ c ∧ c < 100 ∧
    (∀ w, Rounds w → Calls Tryd.prog 24 #[.string k, .int .i64 x, .string n, .string d] w fun e w' => e = .returned (.tuple #[.string s, .int .i64 c]) ∧ Fr [] w w') ∧
    (∀ w, Places w → Calls Tryd.prog 25 #[.string k, .int .i64 x, .string n, .string d] w fun e w' => e = .returned (.tuple #[.string s, .int .i64 c]) ∧ Fr [] w w') := by
  by_cases hk : k.size = 32
  · by_cases hn : n.size = 12
    · by_cases hx : x < 0 ∨ 4294967296 ≤ x
      · exact ⟨_, 42, by omega, by omega, fun w h => xor_count k n d x hk hn hx w, fun w h => refxor_count k n d x hk hn hx w⟩
      · obtain ⟨c, rfl⟩ := wd_of (n := x) (by omega) (by omega)
        by_cases hroom : (d.size + 63) / 64 + c.toNat ≤ 4294967296
        · exact ⟨_, 0, by omega, by omega, fun w h => xor_ok k n d hk hn hd c hroom w h, fun w h => refxor_ok k n d hk hn hd c hroom w h⟩
        · exact ⟨_, 42, by omega, by omega, fun w h => xor_big k n d hk hn hd c (by omega) w, fun w h => refxor_big k n d hk hn hd c (by omega) w⟩
    · exact ⟨_, 41, by omega, by omega, fun w h => xor_nonce k n d x hk hn w, fun w h => refxor_nonce k n d x hk hn w⟩
  · exact ⟨_, 40, by omega, by omega, fun w h => xor_key k n d x hk w, fun w h => refxor_key k n d x hk w⟩

set_option maxRecDepth 100000 in
set_option maxHeartbeats 1000000 in
theorem xors_law (k : ByteArray) (_ : k.size ≤ 140737488351232) (x : Int) (_ : (Lit.int .i64 x).wf = true) (n : ByteArray) (_ : n.size ≤ 140737488351232) (d : ByteArray) (hd : d.size ≤ 140737488351232) (w : World) (hP : Places w) (hR : Rounds w) :
    Calls Tryd.prog 5 #[.string k, .int .i64 x, .string n, .string d] w fun e w' => e = .returned (.bool true) ∧ Fr [] w w' := by
  obtain ⟨s, c, c0, c1, h1, h2⟩ := xor_both k n d hd x
  go_enter Tryd.func5, Tryd.ntmps5
  go_wp2_with (first
    | (go_at_call 24; refine (h1 _ (hR.keep (Fr.drewN [] w 0) (by simp))).mono ?_; rintro e w1 ⟨rfl, f1⟩)
    | (go_at_call 25; refine (h2 _ (hP.keep f1 (by simp))).mono ?_; rintro e w2 ⟨rfl, f2⟩)
    | (go_at_call 21; refine (num4_any c c0 c1 _).mono ?_; rintro e w3 ⟨rfl, q, rfl⟩)
    | fail)
  go_ret
  exact ⟨rfl, f1.trans (f2.trans (Fr.drewN _ _ _))⟩
end Go.Proofs.YtmgfhamfbdaeiaaDoor
