/- What casketref4 computes: words of a text, the rounds, the bytes. -/
import Derived.Test.YtichgiecohhmgaaDoorUntil
import Derived.Test.YtichgiecohhmgaaDoorBytes
import Derived.Test.YtichgiecohhmgaaDoorQuarter
import Derived.Deep.Cut
import Derived.Deep.DeepCutAuto
import Derived.StillTailTactics
import Derived.OwnWalk
import Derived.Test.YtichgiecohhmgaaDoorOwn
namespace Go.Proofs.YtichgiecohhmgaaDoor
open Go.RowKit Go.Lib Base
set_option linter.unusedVariables false
set_option linter.unusedSimpArgs false

/-- Words as ints. -/
def icells (s : List UInt32) : List Value := s.map fun x => .int .i64 (wd x)

theorem wrong_ok (k n : ByteArray) (c : Int) (z : Nat) (hk : k.size = 32) (hn : n.size = z) (h0 : 0 ≤ c) (h1 : c < 4294967296) (w : World) :
    Calls Tryd.prog 46 #[.string k, .int .i64 c, .string n, .int .i64 z] w fun e w' => e = .returned (.int .i64 0) ∧ ∃ q, w' = w.drewN q := by
  go_enter Tryd.func46, Tryd.ntmps46
  go_wp2_with fail
  go_ret
  exact ⟨rfl, 0, rfl⟩
theorem wrong_key (k n : ByteArray) (c : Int) (z : Nat) (hk : k.size ≠ 32) (w : World) :
    Calls Tryd.prog 46 #[.string k, .int .i64 c, .string n, .int .i64 z] w fun e w' => e = .returned (.int .i64 40) ∧ ∃ q, w' = w.drewN q := by
  have hk' : (k.size : Int) ≠ 32 := by omega
  go_enter Tryd.func46, Tryd.ntmps46
  go_wp2_with fail
  go_ret
  exact ⟨rfl, 0, rfl⟩
theorem wrong_nonce (k n : ByteArray) (c : Int) (z : Nat) (hk : k.size = 32) (hn : n.size ≠ z) (w : World) :
    Calls Tryd.prog 46 #[.string k, .int .i64 c, .string n, .int .i64 z] w fun e w' => e = .returned (.int .i64 41) ∧ ∃ q, w' = w.drewN q := by
  have hn' : (n.size : Int) ≠ z := by omega
  go_enter Tryd.func46, Tryd.ntmps46
  go_wp2_with fail
  go_ret
  exact ⟨rfl, 0, rfl⟩
theorem wrong_counter (k n : ByteArray) (c : Int) (z : Nat) (hk : k.size = 32) (hn : n.size = z) (hc : c < 0 ∨ 4294967296 ≤ c) (w : World) :
    Calls Tryd.prog 46 #[.string k, .int .i64 c, .string n, .int .i64 z] w fun e w' => e = .returned (.int .i64 42) ∧ ∃ q, w' = w.drewN q := by
  rcases hc with hc | hc
  all_goals
    go_enter Tryd.func46, Tryd.ntmps46
    go_wp2_with fail
    go_ret
    exact ⟨rfl, 0, rfl⟩

set_option maxRecDepth 100000 in
set_option maxHeartbeats 1000000 in
theorem wordsOf_any (s : ByteArray) (n : Nat) (hs : s.size = 4 * n) (hn : n ≤ 1000) (w : World) :
    Calls Tryd.prog 67 #[.string s] w fun e w' => ∃ v, e = .returned v ∧ w'.ownsRow w.heap.size 3 1 v n (icells (words s.data.toList)) ∧ Fr [] w w' := by
  obtain ⟨iI, hiI, hz0, hz1, hz2⟩ := info_parts (P := Tryd.prog) (show (Tryd.prog.info? 3).map (fun i => (i.zero, i.size, i.bytes)) = some (some (.int .i64 0), 1, 8) by kernel_rfl)
  have hlen : s.data.toList.length = 4 * n := by simpa using hs
  go_enter Tryd.func67, Tryd.ntmps67
  go_wp2_with fail
  go_loopw [3, 4] (fun v0 v9 wr => ∃ i : Nat, i ≤ n ∧ v9 = .int .i64 (4 * i : Nat) ∧ wr.ownsRow w.heap.size 3 1 v0 i (icells ((words s.data.toList).take i)) ∧ Fr [] w wr) (fun _ v _ => 4 * n - (intOf v).toNat)
  case atStart => exact ⟨0, by omega, by simp, World.ownsRow_nil _ _ _ _, Fr.refl _ _⟩
  case round =>
    obtain ⟨i, hi, rfl, h0, hf⟩ := hrel
    by_cases hl : i < n
    · obtain ⟨a, b, c, d, r', hd, hg⟩ := words_get i s.data.toList (by omega)
      have hsz : s.size = 4 * n := hs
      have l0 : (4 * (i : Int)) < 4 * n := by omega
      have l1 : (4 * (i : Int)) + 1 < 4 * n := by omega
      have l2 : (4 * (i : Int)) + 2 < 4 * n := by omega
      have l3 : (4 * (i : Int)) + 3 < 4 * n := by omega
      have k0 : (0 : Int) ≤ 4 * (i : Int) := by omega
      have k1 : (0 : Int) ≤ 4 * (i : Int) + 1 := by omega
      have k2 : (0 : Int) ≤ 4 * (i : Int) + 2 := by omega
      have k3 : (0 : Int) ≤ 4 * (i : Int) + 3 := by omega
      have w1 : IntKind.i64.wrap (4 * (i : Int) + 1) = 4 * (i : Int) + 1 := IntWalk.i64_in _ (by omega)
      have w2 : IntKind.i64.wrap (4 * (i : Int) + 2) = 4 * (i : Int) + 2 := IntWalk.i64_in _ (by omega)
      have w3 : IntKind.i64.wrap (4 * (i : Int) + 3) = 4 * (i : Int) + 3 := IntWalk.i64_in _ (by omega)
      have ha := a.toNat_lt; have hb := b.toNat_lt; have hc := c.toNat_lt; have hd := d.toNat_lt
      have m1 : IntKind.i64.wrap (256 * (b.toNat : Int)) = 256 * b.toNat := IntWalk.i64_in _ (by omega)
      have m2 : IntKind.i64.wrap (65536 * (c.toNat : Int)) = 65536 * c.toNat := IntWalk.i64_in _ (by omega)
      have m3 : IntKind.i64.wrap (16777216 * (d.toNat : Int)) = 16777216 * d.toNat := IntWalk.i64_in _ (by omega)
      have p1 : IntKind.i64.wrap ((a.toNat : Int) + 256 * b.toNat) = a.toNat + 256 * b.toNat := IntWalk.i64_in _ (by omega)
      have p2 : IntKind.i64.wrap ((a.toNat : Int) + 256 * b.toNat + 65536 * c.toNat) = a.toNat + 256 * b.toNat + 65536 * c.toNat := IntWalk.i64_in _ (by omega)
      have p3 : IntKind.i64.wrap ((a.toNat : Int) + 256 * b.toNat + 65536 * c.toNat + 16777216 * d.toNat) = wd (le4 a b c d) := by
        rw [le4_wd]; exact IntWalk.i64_in _ (by omega)
      clear ha hb hc hd
      have t0 : (4 * (i : Int)).toNat = 4 * i := by omega
      have t1 : (4 * (i : Int) + 1).toNat = 4 * i + 1 := by omega
      have t2 : (4 * (i : Int) + 2).toNat = 4 * i + 2 := by omega
      have t3 : (4 * (i : Int) + 3).toNat = 4 * i + 3 := by omega
      have g0 : s[4 * i] = a := bget _ (by have := congrArg (·[0]?) hd; simpa using this)
      have g1 : s[4 * i + 1] = b := bget _ (by have := congrArg (·[1]?) hd; simpa using this)
      have g2 : s[4 * i + 2] = c := bget _ (by have := congrArg (·[2]?) hd; simpa using this)
      have g3 : s[4 * i + 3] = d := bget _ (by have := congrArg (·[3]?) hd; simpa using this)
      go_wp2_with fail
      refine wp_region_until (fun _ => True) (fun _ => True) 1000 (by rfl) ?_
      have hT : True := trivial
      refine until_t0 0 (v := ?_) rfl (by kernel_rfl) (fun _ _ _ h => h) (Or.inl ⟨by rfl, ?_⟩) (by assumption) (fun h => by first | assumption | exact absurd (h : true = false) (by decide)) ?_
      rotate_left
      · intro w hSw; (try dsimp only at hSw); (try go_simp); (try with_reducible rfl)
      try simp only [Act.put, List.setIfInBounds_toArray, List.set_cons_zero, List.set_cons_succ]
      refine until_t0 1 (v := ?_) rfl (by kernel_rfl) (fun _ _ _ h => h) (Or.inl ⟨by rfl, ?_⟩) (by assumption) (fun h => by first | assumption | exact absurd (h : true = false) (by decide)) ?_
      rotate_left
      · intro w hSw; (try dsimp only at hSw); (try go_simp); (try with_reducible rfl)
      try simp only [Act.put, List.setIfInBounds_toArray, List.set_cons_zero, List.set_cons_succ]
      refine until_t0 2 (v := ?_) rfl (by kernel_rfl) (fun _ _ _ h => h) (Or.inl ⟨by rfl, ?_⟩) (by assumption) (fun h => by first | assumption | exact absurd (h : true = false) (by decide)) ?_
      rotate_left
      · intro w hSw; (try dsimp only at hSw); (try go_simp); (try with_reducible rfl)
      try simp only [Act.put, List.setIfInBounds_toArray, List.set_cons_zero, List.set_cons_succ]
      refine until_t0 3 (v := ?_) rfl (by kernel_rfl) (fun _ _ _ h => h) (Or.inl ⟨by rfl, ?_⟩) (by assumption) (fun h => by first | assumption | exact absurd (h : true = false) (by decide)) ?_
      rotate_left
      · intro w hSw; (try dsimp only at hSw); (try go_simp); (try with_reducible rfl)
      try simp only [Act.put, List.setIfInBounds_toArray, List.set_cons_zero, List.set_cons_succ]
      refine until_t0 4 (v := ?_) rfl (by kernel_rfl) (fun _ _ _ h => h) (Or.inl ⟨by rfl, ?_⟩) (by assumption) (fun h => by first | assumption | exact absurd (h : true = false) (by decide)) ?_
      rotate_left
      · intro w hSw; (try dsimp only at hSw); (try go_simp); (try with_reducible rfl)
      try simp only [Act.put, List.setIfInBounds_toArray, List.set_cons_zero, List.set_cons_succ]
      refine until_t0 5 (v := ?_) rfl (by kernel_rfl) (fun _ _ _ h => h) (Or.inl ⟨by rfl, ?_⟩) (by assumption) (fun h => by first | assumption | exact absurd (h : true = false) (by decide)) ?_
      rotate_left
      · intro w hSw; (try dsimp only at hSw); (try go_simp); (try with_reducible rfl)
      try simp only [Act.put, List.setIfInBounds_toArray, List.set_cons_zero, List.set_cons_succ]
      refine until_t0 6 (v := ?_) rfl (by kernel_rfl) (fun _ _ _ h => h) (Or.inl ⟨by rfl, ?_⟩) (by assumption) (fun h => by first | assumption | exact absurd (h : true = false) (by decide)) ?_
      rotate_left
      · intro w hSw; (try dsimp only at hSw); (try go_simp); (try with_reducible rfl)
      try simp only [Act.put, List.setIfInBounds_toArray, List.set_cons_zero, List.set_cons_succ]
      refine until_t0 7 (v := ?_) rfl (by kernel_rfl) (fun _ _ _ h => h) (Or.inl ⟨by rfl, ?_⟩) (by assumption) (fun h => by first | assumption | exact absurd (h : true = false) (by decide)) ?_
      rotate_left
      · intro w hSw; (try dsimp only at hSw); (try go_simp); (try with_reducible rfl)
      try simp only [Act.put, List.setIfInBounds_toArray, List.set_cons_zero, List.set_cons_succ]
      refine until_t0 8 (v := ?_) rfl (by kernel_rfl) (fun _ _ _ h => h) (Or.inl ⟨by rfl, ?_⟩) (by assumption) (fun h => by first | assumption | exact absurd (h : true = false) (by decide)) ?_
      rotate_left
      · intro w hSw; (try dsimp only at hSw); (try go_simp); (try with_reducible rfl)
      try simp only [Act.put, List.setIfInBounds_toArray, List.set_cons_zero, List.set_cons_succ]
      refine until_t0 9 (v := ?_) rfl (by kernel_rfl) (fun _ _ _ h => h) (Or.inl ⟨by rfl, ?_⟩) (by assumption) (fun h => by first | assumption | exact absurd (h : true = false) (by decide)) ?_
      rotate_left
      · intro w hSw; (try dsimp only at hSw); (try go_simp); (try with_reducible rfl)
      try simp only [Act.put, List.setIfInBounds_toArray, List.set_cons_zero, List.set_cons_succ]
      refine until_t0 10 (v := ?_) rfl (by kernel_rfl) (fun _ _ _ h => h) (Or.inl ⟨by rfl, ?_⟩) (by assumption) (fun h => by first | assumption | exact absurd (h : true = false) (by decide)) ?_
      rotate_left
      · intro w hSw; (try dsimp only at hSw); (try go_simp); (try with_reducible rfl)
      try simp only [Act.put, List.setIfInBounds_toArray, List.set_cons_zero, List.set_cons_succ]
      refine until_t0 11 (v := ?_) rfl (by kernel_rfl) (fun _ _ _ h => h) (Or.inl ⟨by rfl, ?_⟩) (by assumption) (fun h => by first | assumption | exact absurd (h : true = false) (by decide)) ?_
      rotate_left
      · intro w hSw; (try dsimp only at hSw); (try go_simp); (try with_reducible rfl)
      try simp only [Act.put, List.setIfInBounds_toArray, List.set_cons_zero, List.set_cons_succ]
      refine until_t0 12 (v := ?_) rfl (by kernel_rfl) (fun _ _ _ h => h) (Or.inl ⟨by rfl, ?_⟩) (by assumption) (fun h => by first | assumption | exact absurd (h : true = false) (by decide)) ?_
      rotate_left
      · intro w hSw; (try dsimp only at hSw); (try go_simp); (try with_reducible rfl)
      try simp only [Act.put, List.setIfInBounds_toArray, List.set_cons_zero, List.set_cons_succ]
      refine until_t0 13 (v := ?_) rfl (by kernel_rfl) (fun _ _ _ h => h) (Or.inl ⟨by rfl, ?_⟩) (by assumption) (fun h => by first | assumption | exact absurd (h : true = false) (by decide)) ?_
      rotate_left
      · intro w hSw; (try dsimp only at hSw); (try go_simp); (try with_reducible rfl)
      try simp only [Act.put, List.setIfInBounds_toArray, List.set_cons_zero, List.set_cons_succ]
      refine until_t0 14 (v := ?_) rfl (by kernel_rfl) (fun _ _ _ h => h) (Or.inl ⟨by rfl, ?_⟩) (by assumption) (fun h => by first | assumption | exact absurd (h : true = false) (by decide)) ?_
      rotate_left
      · intro w hSw; (try dsimp only at hSw); (try go_simp); (try with_reducible rfl)
      try simp only [Act.put, List.setIfInBounds_toArray, List.set_cons_zero, List.set_cons_succ]
      refine until_t0 15 (v := ?_) rfl (by kernel_rfl) (fun _ _ _ h => h) (Or.inl ⟨by rfl, ?_⟩) (by assumption) (fun h => by first | assumption | exact absurd (h : true = false) (by decide)) ?_
      rotate_left
      · intro w hSw; (try dsimp only at hSw); (try go_simp); (try with_reducible rfl)
      try simp only [Act.put, List.setIfInBounds_toArray, List.set_cons_zero, List.set_cons_succ]
      refine until_t0 16 (v := ?_) rfl (by kernel_rfl) (fun _ _ _ h => h) (Or.inl ⟨by rfl, ?_⟩) (by assumption) (fun h => by first | assumption | exact absurd (h : true = false) (by decide)) ?_
      rotate_left
      · intro w hSw; (try dsimp only at hSw); (try go_simp); (try with_reducible rfl)
      try simp only [Act.put, List.setIfInBounds_toArray, List.set_cons_zero, List.set_cons_succ]
      refine until_t0 17 (v := ?_) rfl (by kernel_rfl) (fun _ _ _ h => h) (Or.inl ⟨by rfl, ?_⟩) (by assumption) (fun h => by first | assumption | exact absurd (h : true = false) (by decide)) ?_
      rotate_left
      · intro w hSw; (try dsimp only at hSw); (try go_simp); (try with_reducible rfl)
      try simp only [Act.put, List.setIfInBounds_toArray, List.set_cons_zero, List.set_cons_succ]
      refine until_t0 18 (v := ?_) rfl (by kernel_rfl) (fun _ _ _ h => h) (Or.inl ⟨by rfl, ?_⟩) (by assumption) (fun h => by first | assumption | exact absurd (h : true = false) (by decide)) ?_
      rotate_left
      · intro w hSw; (try dsimp only at hSw); (try go_simp); (try with_reducible rfl)
      try simp only [Act.put, List.setIfInBounds_toArray, List.set_cons_zero, List.set_cons_succ]
      refine until_t0 19 (v := ?_) rfl (by kernel_rfl) (fun _ _ _ h => h) (Or.inl ⟨by rfl, ?_⟩) (by assumption) (fun h => by first | assumption | exact absurd (h : true = false) (by decide)) ?_
      rotate_left
      · intro w hSw; (try dsimp only at hSw); (try go_simp); (try with_reducible rfl)
      try simp only [Act.put, List.setIfInBounds_toArray, List.set_cons_zero, List.set_cons_succ]
      refine until_t0 20 (v := ?_) rfl (by kernel_rfl) (fun _ _ _ h => h) (Or.inl ⟨by rfl, ?_⟩) (by assumption) (fun h => by first | assumption | exact absurd (h : true = false) (by decide)) ?_
      rotate_left
      · intro w hSw; (try dsimp only at hSw); (try go_simp); (try with_reducible rfl)
      try simp only [Act.put, List.setIfInBounds_toArray, List.set_cons_zero, List.set_cons_succ]
      refine until_t0 21 (v := ?_) rfl (by kernel_rfl) (fun _ _ _ h => h) (Or.inl ⟨by rfl, ?_⟩) (by assumption) (fun h => by first | assumption | exact absurd (h : true = false) (by decide)) ?_
      rotate_left
      · intro w hSw; (try dsimp only at hSw); (try go_simp); (try with_reducible rfl)
      try simp only [Act.put, List.setIfInBounds_toArray, List.set_cons_zero, List.set_cons_succ]
      refine until_t0 22 (v := ?_) rfl (by kernel_rfl) (fun _ _ _ h => h) (Or.inl ⟨by rfl, ?_⟩) (by assumption) (fun h => by first | assumption | exact absurd (h : true = false) (by decide)) ?_
      rotate_left
      · intro w hSw; (try dsimp only at hSw); (try go_simp); (try with_reducible rfl)
      try simp only [Act.put, List.setIfInBounds_toArray, List.set_cons_zero, List.set_cons_succ]
      refine until_t0 23 (v := ?_) rfl (by kernel_rfl) (fun _ _ _ h => h) (Or.inl ⟨by rfl, ?_⟩) (by assumption) (fun h => by first | assumption | exact absurd (h : true = false) (by decide)) ?_
      rotate_left
      · intro w hSw; (try dsimp only at hSw); (try go_simp); (try with_reducible rfl)
      try simp only [Act.put, List.setIfInBounds_toArray, List.set_cons_zero, List.set_cons_succ]
      refine until_t0 24 (v := ?_) rfl (by kernel_rfl) (fun _ _ _ h => h) (Or.inl ⟨by rfl, ?_⟩) (by assumption) (fun h => by first | assumption | exact absurd (h : true = false) (by decide)) ?_
      rotate_left
      · intro w hSw; (try dsimp only at hSw); (try go_simp); (try with_reducible rfl)
      try simp only [Act.put, List.setIfInBounds_toArray, List.set_cons_zero, List.set_cons_succ]
      refine until_t0 25 (v := ?_) rfl (by kernel_rfl) (fun _ _ _ h => h) (Or.inl ⟨by rfl, ?_⟩) (by assumption) (fun h => by first | assumption | exact absurd (h : true = false) (by decide)) ?_
      rotate_left
      · intro w hSw; (try dsimp only at hSw); (try go_simp); (try with_reducible rfl)
      try simp only [Act.put, List.setIfInBounds_toArray, List.set_cons_zero, List.set_cons_succ]
      refine until_only (i := 26) rfl (by kernel_rfl) (by rfl) ?_
      intro K' hK
      go_simp
      refine hK _ _ trivial (fun _ => trivial) ?_
      clear hK
      refine until_only (i := 27) rfl (by kernel_rfl) (by rfl) ?_
      intro K' hK
      refine wp_append_own _ _ _ _ rfl w.heap.size 3 iI (.int .i64 0) 1 8 Tryd.underlying107 hiI hz0 hz1 hz2 rfl (by decide) _ i _ rfl (World.ownsRow.alloc (World.ownsRow.drew h0) _) ⟨wr.heap.size, 0, none⟩ 1 1 [.int .i64 (wd (le4 a b c d))] rfl rfl ?_ ?_ ?_ ?_ ?_ ?_
      case refine_1 => intro j u hj; match j, hj with | 0, hj => exact (((At.alloc_new wr.drew 3 #[Value.int .i64 (wd (le4 a b c d))]).cell 0).trans hj)
      case refine_2 => intro u hu; simp at hu; subst hu; rfl
      case refine_3 => simp [maxLen]; omega
      case refine_4 => omega
      case refine_5 => have := hf.size; simp; omega
      intro v' w' hown hgr _
      refine hK _ _ trivial (fun _ => trivial) ?_
      clear hK
      refine until_only (i := 28) rfl (by kernel_rfl) (by rfl) ?_
      intro K' hK
      go_simp
      refine hK _ _ trivial (fun _ => trivial) ?_
      clear hK
      refine until_done (by kernel_rfl) ?_ _
      go_wp2_with fail
      refine ⟨⟨i + 1, by omega, by simp; omega, ?_, ?_⟩, by simp only [intOf]; omega⟩
      · have e : (words s.data.toList).take (i + 1) = (words s.data.toList).take i ++ [le4 a b c d] := by rw [List.take_add_one, hg]; rfl
        rw [e]
        simpa [icells] using hown
      · refine hf.new (S := u3.ownBlock.toList) (((Fr.drew _ _).trans (Fr.alloc _ _ _)).trans (Fr.ofGrown hgr (by intro k hk; rw [show u3.ownBlock = some k from hk]; simp))) (fun x hx => (h0.lt x (by simpa using hx)).1)
    · obtain rfl : i = n := by omega
      go_wp2_with fail
      go_ret
      rw [List.take_of_length_le (by rw [words_len i _ hlen]; omega)] at h0
      exact ⟨_, rfl, h0, hf⟩
end Go.Proofs.YtichgiecohhmgaaDoor
