/- The law ChachaBlocks walked. -/
import Derived.Test.YtmgfhamfbdaeiaaDoorRefBlk
import Derived.Test.YtmgfhamfbdaeiaaDoorLawHashesW
namespace Go.Proofs.YtmgfhamfbdaeiaaDoor
open Go.RowKit Go.Lib Base
set_option linter.unusedVariables false
set_option linter.unusedSimpArgs false

theorem refBlock_ok (k n : ByteArray) (hk : k.size = 32) (hn : n.size = 12) (c : UInt32) (w : World) (ht : Places w) :
    Calls Tryd.prog 23 #[.string k, .int .i64 (wd c), .string n] w fun e w' => e = .returned (.tuple #[.string ⟨(blk k.data.toList n.data.toList c).toArray⟩, .int .i64 0]) ∧ Fr [] w w' := by
  have hw := wd_lt c
  go_enter Tryd.func23, Tryd.ntmps23
  go_wp2_with (first
    | (go_at_call 47; refine (wrong_ok k n (wd c) 12 hk hn hw.1 hw.2 _).mono ?_; rintro e w' ⟨rfl, q1, rfl⟩)
    | (go_at_call 54; refine (refblock_any k n hk hn c _ (ht.keep (Fr.drewN [] w q1) (by simp))).mono ?_; rintro e w2 ⟨rfl, f2⟩)
    | fail)
  go_ret2
  exact ⟨rfl, (Fr.drewN _ _ _).trans f2⟩
theorem refBlock_key (k n : ByteArray) (c : Int) (hk : k.size ≠ 32) (w : World) :
    Calls Tryd.prog 23 #[.string k, .int .i64 c, .string n] w fun e w' => e = .returned (.tuple #[.string ⟨#[]⟩, .int .i64 40]) ∧ Fr [] w w' := by
  go_enter Tryd.func23, Tryd.ntmps23
  go_wp2_with (first
    | (go_at_call 47; refine (wrong_key k n c 12 hk _).mono ?_; rintro e w' ⟨rfl, q1, rfl⟩)
    | fail)
  go_ret2
  exact ⟨rfl, Fr.drewN _ _ _⟩
theorem refBlock_nonce (k n : ByteArray) (c : Int) (hk : k.size = 32) (hn : n.size ≠ 12) (w : World) :
    Calls Tryd.prog 23 #[.string k, .int .i64 c, .string n] w fun e w' => e = .returned (.tuple #[.string ⟨#[]⟩, .int .i64 41]) ∧ Fr [] w w' := by
  go_enter Tryd.func23, Tryd.ntmps23
  go_wp2_with (first
    | (go_at_call 47; refine (wrong_nonce k n c 12 hk hn _).mono ?_; rintro e w' ⟨rfl, q1, rfl⟩)
    | fail)
  go_ret2
  exact ⟨rfl, Fr.drewN _ _ _⟩
theorem refBlock_count (k n : ByteArray) (c : Int) (hk : k.size = 32) (hn : n.size = 12) (hc : c < 0 ∨ 4294967296 ≤ c) (w : World) :
    Calls Tryd.prog 23 #[.string k, .int .i64 c, .string n] w fun e w' => e = .returned (.tuple #[.string ⟨#[]⟩, .int .i64 42]) ∧ Fr [] w w' := by
  go_enter Tryd.func23, Tryd.ntmps23
  go_wp2_with (first
    | (go_at_call 47; refine (wrong_counter k n c 12 hk hn hc _).mono ?_; rintro e w' ⟨rfl, q1, rfl⟩)
    | fail)
  go_ret2
  exact ⟨rfl, Fr.drewN _ _ _⟩

theorem block_both (k n : ByteArray) (x : Int) : ∃ (s : ByteArray) (c : Int), 0 ≤ c ∧ c < 100 ∧
    (∀ w, Rounds w → Calls Tryd.prog 22 #[.string k, .int .i64 x, .string n] w fun e w' => e = .returned (.tuple #[.string s, .int .i64 c]) ∧ Fr [] w w') ∧
    (∀ w, Places w → Calls Tryd.prog 23 #[.string k, .int .i64 x, .string n] w fun e w' => e = .returned (.tuple #[.string s, .int .i64 c]) ∧ Fr [] w w') := by
  by_cases hk : k.size = 32
  · by_cases hn : n.size = 12
    · by_cases hx : x < 0 ∨ 4294967296 ≤ x
      · exact ⟨_, 42, by omega, by omega, fun w h => block_count k n x hk hn hx w, fun w h => refBlock_count k n x hk hn hx w⟩
      · obtain ⟨c, rfl⟩ := wd_of (n := x) (by omega) (by omega)
        exact ⟨_, 0, by omega, by omega, fun w h => block_ok k n hk hn c w h, fun w h => refBlock_ok k n hk hn c w h⟩
    · exact ⟨_, 41, by omega, by omega, fun w h => block_nonce k n x hk hn w, fun w h => refBlock_nonce k n x hk hn w⟩
  · exact ⟨_, 40, by omega, by omega, fun w h => block_key k n x hk w, fun w h => refBlock_key k n x hk w⟩

set_option maxRecDepth 100000 in
set_option maxHeartbeats 1000000 in
theorem blocks_law (k : ByteArray) (_ : k.size ≤ 140737488351232) (x : Int) (_ : (Lit.int .i64 x).wf = true) (n : ByteArray) (_ : n.size ≤ 140737488351232) (w : World) (hP : Places w) (hR : Rounds w) :
    Calls Tryd.prog 4 #[.string k, .int .i64 x, .string n] w fun e w' => e = .returned (.bool true) ∧ Fr [] w w' := by
  obtain ⟨s, c, c0, c1, h1, h2⟩ := block_both k n x
  go_enter Tryd.func4, Tryd.ntmps4
  go_wp2_with (first
    | (go_at_call 22; refine (h1 _ (hR.keep (Fr.drewN [] w 0) (by simp))).mono ?_; rintro e w1 ⟨rfl, f1⟩)
    | (go_at_call 23; refine (h2 _ (hP.keep f1 (by simp))).mono ?_; rintro e w2 ⟨rfl, f2⟩)
    | (go_at_call 21; refine (num4_any c c0 c1 _).mono ?_; rintro e w3 ⟨rfl, q, rfl⟩)
    | fail)
  go_ret
  exact ⟨rfl, f1.trans (f2.trans (Fr.drewN _ _ _))⟩
end Go.Proofs.YtmgfhamfbdaeiaaDoor
