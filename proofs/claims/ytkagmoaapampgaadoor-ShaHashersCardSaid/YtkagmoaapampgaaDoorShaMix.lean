/- mix of the program: the words behind one more block. -/
import Derived.Test.YtkagmoaapampgaaDoorShaIdx
import Derived.Test.YtkagmoaapampgaaDoorUntil
import Derived.Deep.Cut
import Derived.Deep.DeepCutAuto
import Derived.StillTailTactics
import Derived.Deep.MidRow
import Derived.Deep.RegionHeld3
namespace Go.Proofs.YtkagmoaapampgaaDoor
open Go.RowKit Go.Lib Base
set_option linter.unusedVariables false
set_option linter.unusedSimpArgs false

/-- Words as cells. -/
def wcells (s : List UInt32) : List Value := s.map fun x => .int .u32 (wd x)
theorem wcells_get (s : List UInt32) (i : Nat) (h : i < s.length) : (wcells s)[i]? = some (.int .u32 (wd (s.getD i 0))) := by
  simp [wcells, List.getD, h]
theorem wcells_set (s : List UInt32) (i : Nat) (x : UInt32) : (wcells s).set i (.int .u32 (wd x)) = wcells (s.set i x) := by
  simp [wcells, List.map_set]
theorem wcells_len (s : List UInt32) : (wcells s).length = s.length := by simp [wcells]
/-- Words, and zeros up to 64. -/
def padW (l : List UInt32) : List UInt32 := l ++ List.replicate (64 - l.length) 0
theorem padW_len (l : List UInt32) (h : l.length ≤ 64) : (padW l).length = 64 := by simp [padW]; omega
theorem padW_set (l : List UInt32) (x : UInt32) (h : l.length < 64) : (padW l).set l.length x = padW (l ++ [x]) := by
  unfold padW
  rw [List.set_append_right _ _ (Nat.le_refl _), Nat.sub_self, show 64 - l.length = (64 - (l ++ [x]).length) + 1 by simp; omega]
  simp [List.replicate_succ]
theorem padW_get (l : List UInt32) (i : Nat) (h : i < l.length) : (padW l).getD i 0 = l.getD i 0 := by
  simp [padW, List.getD, List.getElem?_append_left h]

theorem zip8 (H : List UInt32) (hH : H.length = 8) (s : St) : List.zipWith (· + ·) H s.list = [H.getD 0 0 + s.a, H.getD 1 0 + s.b, H.getD 2 0 + s.c, H.getD 3 0 + s.d, H.getD 4 0 + s.e, H.getD 5 0 + s.f, H.getD 6 0 + s.g, H.getD 7 0 + s.h] := by
  match H, hH with
  | [_, _, _, _, _, _, _, _], _ => rfl
def Roots (w : World) : Prop := w.rangeAt 1 0 (wcells rootsL)
theorem Roots.keep {S : List Nat} {w w' : World} (h : Roots w) (hf : Fr S w w') (hS : 1 ∉ S) : Roots w' := by
  intro j v hj
  have hc := h j v hj
  rw [← hc]
  have hb : 1 < w.heap.size := by
    rcases Nat.lt_or_ge 1 w.heap.size with h' | h'
    · exact h'
    · simp only [World.cell?, Array.getElem?_eq_none h'] at hc; cases hc
  simp only [World.cell?]
  rw [hf.block _ hb hS]

set_option maxRecDepth 100000 in
set_option maxHeartbeats 1000000 in
theorem mix_any (H : List UInt32) (hH : H.length = 8) (B : List UInt8) (hB : B.length = 64) (g o : Nat) (T : TypeId) (pre post : List Value) (ho : pre.length = o) (w : World) (hg : At w g T (pre ++ byteCells B ++ post)) (hR : Roots w) :
    Calls Tryd.prog 43 #[.agg (wcells H).toArray, .pointer (some ⟨g, o, none⟩)] w fun e w' => e = .returned (.agg (wcells (mixL H (wordsB B))).toArray) ∧ Fr [] w w' := by
  have hgl := hg.lt
  go_enter Tryd.func43, Tryd.ntmps43
  go_wp2_with fail
  have hW := wordsB_len 16 B (by omega)
  go_loopw [22] (fun v wr => ∃ i : Nat, i ≤ 16 ∧ v = .int .i64 i ∧ At wr (w.heap.size + 2) 85 (wcells (padW ((wordsB B).take i))) ∧ At wr w.heap.size 72 (wcells H) ∧ At wr (w.heap.size + 1) 72 (List.replicate 8 (.int .u32 0)) ∧ At wr g T (pre ++ byteCells B ++ post) ∧ Fr [] w wr) (fun v _ => 16 - (intOf v).toNat)
  case atStart =>
    refine ⟨0, by omega, rfl, ?_, ?_, ?_, ?_, ?_⟩
    · have := At.alloc_new ((w.alloc (.cells (wcells H).toArray 72)).alloc (.cells (List.replicate 8 (Value.int .u32 0)).toArray 72)) 85 (List.replicate 64 (Value.int .u32 0)).toArray
      have e : wcells (padW ((wordsB B).take 0)) = List.replicate 64 (Value.int .u32 0) := by rw [List.take_zero]; rfl
      rw [e]
      simpa using this
    · have := ((At.alloc_new w 72 (wcells H).toArray).alloc (.cells (List.replicate 8 (Value.int .u32 0)).toArray 72)).alloc (.cells (List.replicate 64 (Value.int .u32 0)).toArray 85)
      simpa using this
    · have := (At.alloc_new (w.alloc (.cells (wcells H).toArray 72)) 72 (List.replicate 8 (Value.int .u32 0)).toArray).alloc (.cells (List.replicate 64 (Value.int .u32 0)).toArray 85)
      simpa using this
    · exact ((hg.alloc _).alloc _).alloc _
    · exact ((Fr.alloc _ _ _).trans (Fr.alloc _ _ _)).trans (Fr.alloc _ _ _)
  case round =>
    obtain ⟨i, hi, rfl, h2, h0, h1, hg', hF⟩ := hrel
    by_cases hl : i < 16
    · obtain ⟨a, b, c, d, r, hd, hgt⟩ := wordsB_get i B (by omega)
      have l1 : (i : Int) < 16 := by omega
      have hB2 : B = B.take (4 * i) ++ [a, b, c, d] ++ r := by
        rw [List.append_assoc]
        show B = B.take (4 * i) ++ (a :: b :: c :: d :: r)
        rw [← hd, List.take_append_drop]
      have hlt4 : (B.take (4 * i)).length = 4 * i := by simp; omega
      have hcv : ∀ c', (convert 28 9 (.slice (some ⟨g, o + 4 * i, none⟩) 4 c')).run Tryd.prog wr = .ok (.string ⟨[a, b, c, d].toArray⟩) wr := by
        intro c'
        refine run_strB (P := Tryd.prog) (d := 9) Tryd.underlying28 Tryd.underlying5 Tryd.underlying9 wr g (o + 4 * i) c' T [a, b, c, d] (pre ++ byteCells (B.take (4 * i))) (byteCells r ++ post) ?_ (by rw [List.length_append, byteCells_length, hlt4, ho]) 4 rfl
        have e : pre ++ byteCells (B.take (4 * i)) ++ byteCells [a, b, c, d] ++ (byteCells r ++ post) = pre ++ byteCells B ++ post := by
          conv => rhs; rw [hB2]
          simp [byteCells]
        rw [e]; exact hg'
      have w1 : IntKind.i64.wrap (4 * (i : Int)) = 4 * (i : Int) := IntWalk.i64_in _ (by omega)
      have w2 : IntKind.i64.wrap (4 * (i : Int) + 4) = 4 * (i : Int) + 4 := IntWalk.i64_in _ (by omega)
      have t1 : (4 * (i : Int)).toNat = 4 * i := by omega
      have t2 : (4 * (i : Int) + 4).toNat = 4 * i + 4 := by omega
      have k1 : (0 : Int) ≤ 4 * (i : Int) := by omega
      have k2 : 4 * (i : Int) + 4 ≤ 64 := by omega
      have k3 : 4 * (i : Int) ≤ 4 * (i : Int) + 4 := by omega
      have hf4 := fun w => four_any ⟨[a, b, c, d].toArray⟩ a b c d [] rfl w
      have hk : ((wordsB B).take i).length = i := by simp; omega
      have hset := padW_set ((wordsB B).take i) (be4 a b c d) (by omega)
      rw [hk] at hset
      have htk : (wordsB B).take (i + 1) = (wordsB B).take i ++ [be4 a b c d] := by rw [List.take_add_one, hgt]; rfl
      rw [← htk] at hset
      have HS := Lib.hid hset
      have c2 := h2.cell i
      rw [wcells_get _ _ (by rw [padW_len _ (by omega)]; omega)] at c2
      have f2 := h2.frozen i
      generalize (padW ((wordsB B).take i)).getD i 0 = old at c2
      clear hset htk hk hB2 hlt4 hd hgt
      go_wp2_with (first
        | (go_at_call 40; refine (hf4 _).mono ?_; rintro e w' ⟨rfl, q, rfl⟩)
        | fail)
      have hgm : g ≠ w.heap.size + 2 := by omega
      refine ⟨⟨i + 1, by omega, by simp, ?_, ?_, ?_, ?_, ?_⟩, by simp only [intOf]; omega⟩
      · rw [← HS.out, ← wcells_set]
        exact (h2.setCell i _).drewN q
      · exact (h0.setCell_other (by show w.heap.size ≠ w.heap.size + 2; omega) _).drewN q
      · exact (h1.setCell_other (by show w.heap.size + 1 ≠ w.heap.size + 2; omega) _).drewN q
      · exact (hg'.setCell_other (by show g ≠ w.heap.size + 2; omega) _).drewN q
      · exact hF.new (S := [w.heap.size + 2]) ((Fr.setCell [w.heap.size + 2] wr ⟨w.heap.size + 2, i, none⟩ _ (.inl (by simp))).trans (Fr.drewN _ _ _)) (by simp)
    · obtain rfl : i = 16 := by omega
      rw [List.take_of_length_le (by omega)] at h2
      obtain ⟨M, hM⟩ : ∃ M, M = wordsB B := ⟨_, rfl⟩
      have hML : M.length = 16 := by rw [hM]; exact hW
      rw [← hM] at h2
      have HM := Lib.hid hM
      clear hM hW hg' hg hgl
      go_wp2_with fail
      rw [show ((16 : Nat) : Int) = 16 from rfl]
      go_loopw [7] (fun v wr => ∃ n : Nat, n ≤ 48 ∧ v = .int .i64 (16 + n : Nat) ∧ At wr (w.heap.size + 2) 85 (wcells (padW (sch M n))) ∧ At wr w.heap.size 72 (wcells H) ∧ At wr (w.heap.size + 1) 72 (List.replicate 8 (.int .u32 0)) ∧ Fr [] w wr) (fun v _ => 64 - (intOf v).toNat)
      case atStart => exact ⟨0, by omega, rfl, h2, h0, h1, hF⟩
      case round =>
        clear h0 h1 h2 hF
        obtain ⟨n, hn, rfl, h2, h0, h1, hF⟩ := hrel
        by_cases hl : n < 48
        · have hsl := sch_len M hML n
          have hset := padW_set (sch M n) (lit1 ((sch M n).getD (n + 14) 0) + (sch M n).getD (n + 9) 0 + lit0 ((sch M n).getD (n + 1) 0) + (sch M n).getD n 0) (by omega)
          have hsucc : sch M n ++ [lit1 ((sch M n).getD (n + 14) 0) + (sch M n).getD (n + 9) 0 + lit0 ((sch M n).getD (n + 1) 0) + (sch M n).getD n 0] = sch M (n + 1) := rfl
          rw [hsucc, hsl] at hset
          have hpl := padW_len (sch M n) (by omega)
          have c14 := h2.cell (n + 14)
          have c9 := h2.cell (n + 9)
          have c1 := h2.cell (n + 1)
          have c0 := h2.cell n
          rw [wcells_get _ _ (by omega), padW_get _ _ (by omega)] at c14 c9 c1 c0
          have cS := h2.cell (n + 16)
          rw [wcells_get _ _ (by omega)] at cS
          have fS := h2.frozen (n + 16)
          generalize (padW (sch M n)).getD (n + 16) 0 = old at cS
          generalize (sch M n).getD (n + 14) 0 = x at c14 hset
          generalize (sch M n).getD (n + 9) 0 = y9 at c9 hset
          generalize (sch M n).getD (n + 1) 0 = y at c1 hset
          generalize (sch M n).getD n 0 = z at c0 hset
          have HS := Lib.hid hset
          have l1 : 16 + (n : Int) < 64 := by omega
          have j1 : IntKind.i64.wrap (16 + (n : Int) - 2) = ((n + 14 : Nat) : Int) := by rw [IntWalk.i64_in _ (by omega)]; omega
          have j2 : IntKind.i64.wrap (16 + (n : Int) - 15) = ((n + 1 : Nat) : Int) := by rw [IntWalk.i64_in _ (by omega)]; omega
          have j3 : IntKind.i64.wrap (16 + (n : Int) - 7) = ((n + 9 : Nat) : Int) := by rw [IntWalk.i64_in _ (by omega)]; omega
          have j4 : IntKind.i64.wrap (16 + (n : Int) - 16) = ((n : Nat) : Int) := by rw [IntWalk.i64_in _ (by omega)]; omega
          clear hset hsucc
          go_wp2_with fail
          refine wp_region_until (fun w' => w'.cell? ⟨w.heap.size + 1 + 1, n + 14, none⟩ = some (.int .u32 (wd x)) ∧ w'.cell? ⟨w.heap.size + 1 + 1, n + 1, none⟩ = some (.int .u32 (wd y))) (fun _ => True) 1000 (by rfl) ?_
          have hT : True := trivial
          have s0 : _ ∧ _ := ⟨c14, c1⟩
          have p14 : (0 : Int) ≤ (n : Int) + 14 := by omega
          have q14 : (n : Int) + 14 < 64 := by omega
          have t14 : ((n : Int) + 14).toNat = n + 14 := by omega
          have p9 : (0 : Int) ≤ (n : Int) + 9 := by omega
          have q9 : (n : Int) + 9 < 64 := by omega
          have t9 : ((n : Int) + 9).toNat = n + 9 := by omega
          have p1 : (0 : Int) ≤ (n : Int) + 1 := by omega
          have q1 : (n : Int) + 1 < 64 := by omega
          have t1 : ((n : Int) + 1).toNat = n + 1 := by omega
          have p16 : (0 : Int) ≤ (n : Int) + 16 := by omega
          have q16 : (n : Int) + 16 < 64 := by omega
          have t16 : ((n : Int) + 16).toNat = n + 16 := by omega
          have q0 : (n : Int) < 64 := by omega
          have p20 : (0 : Int) ≤ 16 + (n : Int) := by omega
          have t20 : (16 + (n : Int)).toNat = n + 16 := by omega
          refine until_s0 0 (v := ?_) rfl (by kernel_rfl) (fun _ _ _ h => h) (Or.inl ⟨by rfl, ?_⟩) (by assumption) (fun h => by first | assumption | exact absurd (h : true = false) (by decide)) ?_
          rotate_left
          · intro w hSw; (try dsimp only at hSw); (try go_simp); (try with_reducible rfl)
          try simp only [Act.put, List.setIfInBounds_toArray, List.set_cons_zero, List.set_cons_succ]
          refine until_s0 1 (v := ?_) rfl (by kernel_rfl) (fun _ _ _ h => h) (Or.inl ⟨by rfl, ?_⟩) (by assumption) (fun h => by first | assumption | exact absurd (h : true = false) (by decide)) ?_
          rotate_left
          · intro w hSw; (try dsimp only at hSw); (try go_simp); (try with_reducible rfl)
          try simp only [Act.put, List.setIfInBounds_toArray, List.set_cons_zero, List.set_cons_succ]
          refine until_s0 2 (v := ?_) rfl (by kernel_rfl) (fun _ _ _ h => h) (Or.inl ⟨by rfl, ?_⟩) (by assumption) (fun h => by first | assumption | exact absurd (h : true = false) (by decide)) ?_
          rotate_left
          · intro w hSw; (try dsimp only at hSw); (try go_simp); (try with_reducible rfl)
          try simp only [Act.put, List.setIfInBounds_toArray, List.set_cons_zero, List.set_cons_succ]
          refine until_s0 3 (v := ?_) rfl (by kernel_rfl) (fun _ _ _ h => h) (Or.inl ⟨by rfl, ?_⟩) (by assumption) (fun h => by first | assumption | exact absurd (h : true = false) (by decide)) ?_
          rotate_left
          · intro w hSw; (try dsimp only at hSw); (try go_simp); (try with_reducible rfl)
          try simp only [Act.put, List.setIfInBounds_toArray, List.set_cons_zero, List.set_cons_succ]
          refine until_s0 4 (v := ?_) rfl (by kernel_rfl) (fun _ _ _ h => h) (Or.inl ⟨by rfl, ?_⟩) (by assumption) (fun h => by first | assumption | exact absurd (h : true = false) (by decide)) ?_
          rotate_left
          · intro w hSw; (try dsimp only at hSw); (try go_simp); (try with_reducible rfl)
          try simp only [Act.put, List.setIfInBounds_toArray, List.set_cons_zero, List.set_cons_succ]
          refine until_s0 5 (v := ?_) rfl (by kernel_rfl) (fun _ _ _ h => h) (Or.inl ⟨by rfl, ?_⟩) (by assumption) (fun h => by first | assumption | exact absurd (h : true = false) (by decide)) ?_
          rotate_left
          · intro w hSw; (try dsimp only at hSw); (try go_simp); (try with_reducible rfl)
          try simp only [Act.put, List.setIfInBounds_toArray, List.set_cons_zero, List.set_cons_succ]
          refine until_s0 6 (v := ?_) rfl (by kernel_rfl) (fun _ _ _ h => h) (Or.inl ⟨by rfl, ?_⟩) (by assumption) (fun h => by first | assumption | exact absurd (h : true = false) (by decide)) ?_
          rotate_left
          · intro w hSw; (try dsimp only at hSw); (try go_simp); (try with_reducible rfl)
          try simp only [Act.put, List.setIfInBounds_toArray, List.set_cons_zero, List.set_cons_succ]
          refine until_s0 7 (v := ?_) rfl (by kernel_rfl) (fun _ _ _ h => h) (Or.inl ⟨by rfl, ?_⟩) (by assumption) (fun h => by first | assumption | exact absurd (h : true = false) (by decide)) ?_
          rotate_left
          · intro w hSw; (try dsimp only at hSw); (try go_simp); (try with_reducible rfl)
          try simp only [Act.put, List.setIfInBounds_toArray, List.set_cons_zero, List.set_cons_succ]
          refine until_s0 8 (v := ?_) rfl (by kernel_rfl) (fun _ _ _ h => h) (Or.inl ⟨by rfl, ?_⟩) (by assumption) (fun h => by first | assumption | exact absurd (h : true = false) (by decide)) ?_
          rotate_left
          · intro w hSw; (try dsimp only at hSw); (try go_simp); (try with_reducible rfl)
          try simp only [Act.put, List.setIfInBounds_toArray, List.set_cons_zero, List.set_cons_succ]
          refine until_s0 9 (v := ?_) rfl (by kernel_rfl) (fun _ _ _ h => h) (Or.inl ⟨by rfl, ?_⟩) (by assumption) (fun h => by first | assumption | exact absurd (h : true = false) (by decide)) ?_
          rotate_left
          · intro w hSw; (try dsimp only at hSw); (try go_simp); (try with_reducible rfl)
          try simp only [Act.put, List.setIfInBounds_toArray, List.set_cons_zero, List.set_cons_succ]
          clear s0
          refine until_done (by kernel_rfl) ?_ _
          go_wp2_with fail
          refine wp_region_until (fun _ => True) (fun w' => w'.cell? ⟨w.heap.size + 1 + 1, n + 9, none⟩ = some (.int .u32 (wd y9)) ∧ w'.cell? ⟨w.heap.size + 1 + 1, n, none⟩ = some (.int .u32 (wd z))) 29 (by rfl) ?_
          have s1 : _ ∧ _ := ⟨c9, c0⟩
          have s1' := fun (_ : (false = false)) => s1
          refine until_s0 0 (v := ?_) rfl (by kernel_rfl) (fun _ _ _ h => h) (Or.inl ⟨by rfl, ?_⟩) (by assumption) (fun h => by first | assumption | exact absurd (h : true = false) (by decide)) ?_
          rotate_left
          · intro w hSw; (try dsimp only at hSw); (try go_simp); (try with_reducible rfl)
          try simp only [Act.put, List.setIfInBounds_toArray, List.set_cons_zero, List.set_cons_succ]
          refine until_s0 1 (v := ?_) rfl (by kernel_rfl) (fun _ _ _ h => h) (Or.inl ⟨by rfl, ?_⟩) (by assumption) (fun h => by first | assumption | exact absurd (h : true = false) (by decide)) ?_
          rotate_left
          · intro w hSw; (try dsimp only at hSw); (try go_simp); (try with_reducible rfl)
          try simp only [Act.put, List.setIfInBounds_toArray, List.set_cons_zero, List.set_cons_succ]
          refine until_s0 3 (v := ?_) rfl (by kernel_rfl) (fun _ _ _ h => h) (Or.inl ⟨by rfl, ?_⟩) (by assumption) (fun h => by first | assumption | exact absurd (h : true = false) (by decide)) ?_
          rotate_left
          · intro w hSw; (try dsimp only at hSw); (try go_simp); (try with_reducible rfl)
          try simp only [Act.put, List.setIfInBounds_toArray, List.set_cons_zero, List.set_cons_succ]
          refine until_s0 6 (v := ?_) rfl (by kernel_rfl) (fun _ _ _ h => h) (Or.inl ⟨by rfl, ?_⟩) (by assumption) (fun h => by first | assumption | exact absurd (h : true = false) (by decide)) ?_
          rotate_left
          · intro w hSw; (try dsimp only at hSw); (try go_simp); (try with_reducible rfl)
          try simp only [Act.put, List.setIfInBounds_toArray, List.set_cons_zero, List.set_cons_succ]
          refine until_s0 7 (v := ?_) rfl (by kernel_rfl) (fun _ _ _ h => h) (Or.inl ⟨by rfl, ?_⟩) (by assumption) (fun h => by first | assumption | exact absurd (h : true = false) (by decide)) ?_
          rotate_left
          · intro w hSw; (try dsimp only at hSw); (try go_simp); (try with_reducible rfl)
          try simp only [Act.put, List.setIfInBounds_toArray, List.set_cons_zero, List.set_cons_succ]
          refine until_s0 9 (v := ?_) rfl (by kernel_rfl) (fun _ _ _ h => h) (Or.inl ⟨by rfl, ?_⟩) (by assumption) (fun h => by first | assumption | exact absurd (h : true = false) (by decide)) ?_
          rotate_left
          · intro w hSw; (try dsimp only at hSw); (try go_simp); (try with_reducible rfl)
          try simp only [Act.put, List.setIfInBounds_toArray, List.set_cons_zero, List.set_cons_succ]
          refine until_s0 10 (v := ?_) rfl (by kernel_rfl) (fun _ _ _ h => h) (Or.inl ⟨by rfl, ?_⟩) (by assumption) (fun h => by first | assumption | exact absurd (h : true = false) (by decide)) ?_
          rotate_left
          · intro w hSw; (try dsimp only at hSw); (try go_simp); (try with_reducible rfl)
          try simp only [Act.put, List.setIfInBounds_toArray, List.set_cons_zero, List.set_cons_succ]
          refine until_s0 11 (v := ?_) rfl (by kernel_rfl) (fun _ _ _ h => h) (Or.inl ⟨by rfl, ?_⟩) (by assumption) (fun h => by first | assumption | exact absurd (h : true = false) (by decide)) ?_
          rotate_left
          · intro w hSw; (try dsimp only at hSw); (try go_simp); (try with_reducible rfl)
          try simp only [Act.put, List.setIfInBounds_toArray, List.set_cons_zero, List.set_cons_succ]
          refine until_s1 12 (v := ?_) rfl (by kernel_rfl) (fun _ _ _ h => h) (Or.inl ⟨by rfl, ?_⟩) (by assumption) (fun h => by first | assumption | exact absurd (h : true = false) (by decide)) ?_
          rotate_left
          · intro w hSw; (try dsimp only at hSw); (try go_simp); (try with_reducible rfl)
          try simp only [Act.put, List.setIfInBounds_toArray, List.set_cons_zero, List.set_cons_succ]
          refine until_s0 14 (v := ?_) rfl (by kernel_rfl) (fun _ _ _ h => h) (Or.inl ⟨by rfl, ?_⟩) (by assumption) (fun h => by first | assumption | exact absurd (h : true = false) (by decide)) ?_
          rotate_left
          · intro w hSw; (try dsimp only at hSw); (try go_simp); (try with_reducible rfl)
          try simp only [Act.put, List.setIfInBounds_toArray, List.set_cons_zero, List.set_cons_succ]
          refine until_s0 16 (v := ?_) rfl (by kernel_rfl) (fun _ _ _ h => h) (Or.inl ⟨by rfl, ?_⟩) (by assumption) (fun h => by first | assumption | exact absurd (h : true = false) (by decide)) ?_
          rotate_left
          · intro w hSw; (try dsimp only at hSw); (try go_simp); (try with_reducible rfl)
          try simp only [Act.put, List.setIfInBounds_toArray, List.set_cons_zero, List.set_cons_succ]
          refine until_s0 19 (v := ?_) rfl (by kernel_rfl) (fun _ _ _ h => h) (Or.inl ⟨by rfl, ?_⟩) (by assumption) (fun h => by first | assumption | exact absurd (h : true = false) (by decide)) ?_
          rotate_left
          · intro w hSw; (try dsimp only at hSw); (try go_simp); (try with_reducible rfl)
          try simp only [Act.put, List.setIfInBounds_toArray, List.set_cons_zero, List.set_cons_succ]
          refine until_s0 20 (v := ?_) rfl (by kernel_rfl) (fun _ _ _ h => h) (Or.inl ⟨by rfl, ?_⟩) (by assumption) (fun h => by first | assumption | exact absurd (h : true = false) (by decide)) ?_
          rotate_left
          · intro w hSw; (try dsimp only at hSw); (try go_simp); (try with_reducible rfl)
          try simp only [Act.put, List.setIfInBounds_toArray, List.set_cons_zero, List.set_cons_succ]
          refine until_s0 23 (v := ?_) rfl (by kernel_rfl) (fun _ _ _ h => h) (Or.inl ⟨by rfl, ?_⟩) (by assumption) (fun h => by first | assumption | exact absurd (h : true = false) (by decide)) ?_
          rotate_left
          · intro w hSw; (try dsimp only at hSw); (try go_simp); (try with_reducible rfl)
          try simp only [Act.put, List.setIfInBounds_toArray, List.set_cons_zero, List.set_cons_succ]
          refine until_s0 24 (v := ?_) rfl (by kernel_rfl) (fun _ _ _ h => h) (Or.inl ⟨by rfl, ?_⟩) (by assumption) (fun h => by first | assumption | exact absurd (h : true = false) (by decide)) ?_
          rotate_left
          · intro w hSw; (try dsimp only at hSw); (try go_simp); (try with_reducible rfl)
          try simp only [Act.put, List.setIfInBounds_toArray, List.set_cons_zero, List.set_cons_succ]
          refine until_s0 25 (v := ?_) rfl (by kernel_rfl) (fun _ _ _ h => h) (Or.inl ⟨by rfl, ?_⟩) (by assumption) (fun h => by first | assumption | exact absurd (h : true = false) (by decide)) ?_
          rotate_left
          · intro w hSw; (try dsimp only at hSw); (try go_simp); (try with_reducible rfl)
          try simp only [Act.put, List.setIfInBounds_toArray, List.set_cons_zero, List.set_cons_succ]
          refine until_s1 26 (v := ?_) rfl (by kernel_rfl) (fun _ _ _ h => h) (Or.inl ⟨by rfl, ?_⟩) (by assumption) (fun h => by first | assumption | exact absurd (h : true = false) (by decide)) ?_
          rotate_left
          · intro w hSw; (try dsimp only at hSw); (try go_simp); (try with_reducible rfl)
          try simp only [Act.put, List.setIfInBounds_toArray, List.set_cons_zero, List.set_cons_succ]
          refine until_sole 2 rfl (by kernel_rfl) (by rfl) ?_
          intro K' hK
          go_simp
          go_at_call 47
          refine (turn_any x 17 (by decide) _).mono ?_
          rintro e w' ⟨rfl, rfl⟩
          go_wp2_with fail
          refine hK _ _ trivial (fun _ => s1) ?_
          clear hK
          skip
          refine until_sole 4 rfl (by kernel_rfl) (by rfl) ?_
          intro K' hK
          go_simp
          go_at_call 47
          refine (turn_any x 19 (by decide) _).mono ?_
          rintro e w' ⟨rfl, rfl⟩
          go_wp2_with fail
          refine hK _ _ trivial (fun _ => s1) ?_
          clear hK
          refine until_s0 5 (v := ?_) rfl (by kernel_rfl) (fun _ _ _ h => h) (Or.inl ⟨by rfl, ?_⟩) (by assumption) (fun h => by first | assumption | exact absurd (h : true = false) (by decide)) ?_
          rotate_left
          · intro w hSw; (try dsimp only at hSw); (try go_simp); (try with_reducible rfl)
          try simp only [Act.put, List.setIfInBounds_toArray, List.set_cons_zero, List.set_cons_succ]
          refine until_s0 8 (v := ?_) rfl (by kernel_rfl) (fun _ _ _ h => h) (Or.inl ⟨by rfl, ?_⟩) (by assumption) (fun h => by first | assumption | exact absurd (h : true = false) (by decide)) ?_
          rotate_left
          · intro w hSw; (try dsimp only at hSw); (try go_simp); (try with_reducible rfl)
          try simp only [Act.put, List.setIfInBounds_toArray, List.set_cons_zero, List.set_cons_succ]
          refine until_s0 13 (v := ?_) rfl (by kernel_rfl) (fun _ _ _ h => h) (Or.inl ⟨by rfl, ?_⟩) (by assumption) (fun h => by first | assumption | exact absurd (h : true = false) (by decide)) ?_
          rotate_left
          · intro w hSw; (try dsimp only at hSw); (try go_simp); (try with_reducible rfl)
          try simp only [Act.put, List.setIfInBounds_toArray, List.set_cons_zero, List.set_cons_succ]
          refine until_sole 15 rfl (by kernel_rfl) (by rfl) ?_
          intro K' hK
          go_simp
          go_at_call 47
          refine (turn_any y 7 (by decide) _).mono ?_
          rintro e w' ⟨rfl, rfl⟩
          go_wp2_with fail
          refine hK _ _ trivial (fun _ => s1) ?_
          clear hK
          skip
          refine until_sole 17 rfl (by kernel_rfl) (by rfl) ?_
          intro K' hK
          go_simp
          go_at_call 47
          refine (turn_any y 18 (by decide) _).mono ?_
          rintro e w' ⟨rfl, rfl⟩
          go_wp2_with fail
          refine hK _ _ trivial (fun _ => s1) ?_
          clear hK
          refine until_s0 18 (v := ?_) rfl (by kernel_rfl) (fun _ _ _ h => h) (Or.inl ⟨by rfl, ?_⟩) (by assumption) (fun h => by first | assumption | exact absurd (h : true = false) (by decide)) ?_
          rotate_left
          · intro w hSw; (try dsimp only at hSw); (try go_simp); (try with_reducible rfl)
          try simp only [Act.put, List.setIfInBounds_toArray, List.set_cons_zero, List.set_cons_succ]
          refine until_s0 21 (v := ?_) rfl (by kernel_rfl) (fun _ _ _ h => h) (Or.inl ⟨by rfl, ?_⟩) (by assumption) (fun h => by first | assumption | exact absurd (h : true = false) (by decide)) ?_
          rotate_left
          · intro w hSw; (try dsimp only at hSw); (try go_simp); (try with_reducible rfl)
          try simp only [Act.put, List.setIfInBounds_toArray, List.set_cons_zero, List.set_cons_succ]
          refine until_s0 22 (v := ?_) rfl (by kernel_rfl) (fun _ _ _ h => h) (Or.inl ⟨by rfl, ?_⟩) (by assumption) (fun h => by first | assumption | exact absurd (h : true = false) (by decide)) ?_
          rotate_left
          · intro w hSw; (try dsimp only at hSw); (try go_simp); (try with_reducible rfl)
          try simp only [Act.put, List.setIfInBounds_toArray, List.set_cons_zero, List.set_cons_succ]
          refine until_s0 27 (v := ?_) rfl (by kernel_rfl) (fun _ _ _ h => h) (Or.inl ⟨by rfl, ?_⟩) (by assumption) (fun h => by first | assumption | exact absurd (h : true = false) (by decide)) ?_
          rotate_left
          · intro w hSw; (try dsimp only at hSw); (try go_simp); (try with_reducible rfl)
          try simp only [Act.put, List.setIfInBounds_toArray, List.set_cons_zero, List.set_cons_succ]
          refine until_s0 28 (v := ?_) rfl (by kernel_rfl) (fun _ _ _ h => h) (Or.inl ⟨by rfl, ?_⟩) (by assumption) (fun h => by first | assumption | exact absurd (h : true = false) (by decide)) ?_
          rotate_left
          · intro w hSw; (try dsimp only at hSw); (try go_simp); (try with_reducible rfl)
          try simp only [Act.put, List.setIfInBounds_toArray, List.set_cons_zero, List.set_cons_succ]
          refine until_sole 29 rfl (by kernel_rfl) (by rfl) ?_
          intro K' hK
          go_simp
          refine hK _ _ trivial (fun h => absurd (h : true = false) (by decide)) ?_
          clear hK s1 s1'
          refine until_done (by kernel_rfl) ?_ _
          go_wp2_with fail
          refine ⟨⟨n + 1, by omega, by simp; omega, ?_, ?_, ?_, ?_⟩, by simp only [intOf]; omega⟩
          · have e : (padW (sch M n)).set (n + 16) (lit1 x + y9 + lit0 y + z) = padW (sch M (n + 1)) := by rw [Nat.add_comm n 16]; exact HS.out
            have := h2.setCell (n + 16) (.int .u32 (wd (lit1 x + y9 + lit0 y + z)))
            rw [wcells_set, e] at this
            exact this
          · exact h0.setCell_other (by show w.heap.size ≠ w.heap.size + 2; omega) _
          · exact h1.setCell_other (by show w.heap.size + 1 ≠ w.heap.size + 2; omega) _
          · exact hF.new (S := [w.heap.size + 2]) (((Fr.drewN _ wr 1).trans (Fr.setCell [w.heap.size + 2] _ ⟨w.heap.size + 2, n + 16, none⟩ _ (.inl (by simp)))).trans (Fr.drewN _ _ 1)) (by simp)
        · obtain rfl : n = 48 := by omega
          have hml : (sch M 48).length = 64 := sch_len M hML 48
          have hpad : padW (sch M 48) = sch M 48 := by simp [padW, hml]
          rw [hpad] at h2
          have b0 := h0.cell 0
          have b1 := h0.cell 1
          have b2 := h0.cell 2
          have b3 := h0.cell 3
          have b4 := h0.cell 4
          have b5 := h0.cell 5
          have b6 := h0.cell 6
          have b7 := h0.cell 7
          rw [wcells_get _ _ (by omega)] at b0 b1 b2 b3 b4 b5 b6 b7
          have HH := Lib.hid (show steps H (sch M 48) 0 = ⟨H.getD 0 0, H.getD 1 0, H.getD 2 0, H.getD 3 0, H.getD 4 0, H.getD 5 0, H.getD 6 0, H.getD 7 0⟩ from rfl)
          generalize H.getD 0 0 = ha at b0 HH
          generalize H.getD 1 0 = hb at b1 HH
          generalize H.getD 2 0 = hc at b2 HH
          generalize H.getD 3 0 = hd at b3 HH
          generalize H.getD 4 0 = he at b4 HH
          generalize H.getD 5 0 = hf at b5 HH
          generalize H.getD 6 0 = hg at b6 HH
          generalize H.getD 7 0 = hh at b7 HH
          go_wp2_with fail
          refine wp_region_until (fun w' => w'.cell? ⟨w.heap.size, 0, none⟩ = some (.int .u32 (wd ha)) ∧ w'.cell? ⟨w.heap.size, 1, none⟩ = some (.int .u32 (wd hb)) ∧ w'.cell? ⟨w.heap.size, 2, none⟩ = some (.int .u32 (wd hc)) ∧ w'.cell? ⟨w.heap.size, 3, none⟩ = some (.int .u32 (wd hd)) ∧ w'.cell? ⟨w.heap.size, 4, none⟩ = some (.int .u32 (wd he)) ∧ w'.cell? ⟨w.heap.size, 5, none⟩ = some (.int .u32 (wd hf)) ∧ w'.cell? ⟨w.heap.size, 6, none⟩ = some (.int .u32 (wd hg)) ∧ w'.cell? ⟨w.heap.size, 7, none⟩ = some (.int .u32 (wd hh))) (fun _ => True) 1000 (by rfl) ?_
          have hT : True := trivial
          have s0 : _ ∧ _ ∧ _ ∧ _ ∧ _ ∧ _ ∧ _ ∧ _ := ⟨b0, b1, b2, b3, b4, b5, b6, b7⟩
          refine until_s0 0 (v := ?_) rfl (by kernel_rfl) (fun _ _ _ h => h) (Or.inl ⟨by rfl, ?_⟩) (by assumption) (fun h => by first | assumption | exact absurd (h : true = false) (by decide)) ?_
          rotate_left
          · intro w hSw; (try dsimp only at hSw); (try go_simp); (try with_reducible rfl)
          try simp only [Act.put, List.setIfInBounds_toArray, List.set_cons_zero, List.set_cons_succ]
          refine until_s0 1 (v := ?_) rfl (by kernel_rfl) (fun _ _ _ h => h) (Or.inl ⟨by rfl, ?_⟩) (by assumption) (fun h => by first | assumption | exact absurd (h : true = false) (by decide)) ?_
          rotate_left
          · intro w hSw; (try dsimp only at hSw); (try go_simp); (try with_reducible rfl)
          try simp only [Act.put, List.setIfInBounds_toArray, List.set_cons_zero, List.set_cons_succ]
          refine until_s0 2 (v := ?_) rfl (by kernel_rfl) (fun _ _ _ h => h) (Or.inl ⟨by rfl, ?_⟩) (by assumption) (fun h => by first | assumption | exact absurd (h : true = false) (by decide)) ?_
          rotate_left
          · intro w hSw; (try dsimp only at hSw); (try go_simp); (try with_reducible rfl)
          try simp only [Act.put, List.setIfInBounds_toArray, List.set_cons_zero, List.set_cons_succ]
          refine until_s0 3 (v := ?_) rfl (by kernel_rfl) (fun _ _ _ h => h) (Or.inl ⟨by rfl, ?_⟩) (by assumption) (fun h => by first | assumption | exact absurd (h : true = false) (by decide)) ?_
          rotate_left
          · intro w hSw; (try dsimp only at hSw); (try go_simp); (try with_reducible rfl)
          try simp only [Act.put, List.setIfInBounds_toArray, List.set_cons_zero, List.set_cons_succ]
          refine until_s0 4 (v := ?_) rfl (by kernel_rfl) (fun _ _ _ h => h) (Or.inl ⟨by rfl, ?_⟩) (by assumption) (fun h => by first | assumption | exact absurd (h : true = false) (by decide)) ?_
          rotate_left
          · intro w hSw; (try dsimp only at hSw); (try go_simp); (try with_reducible rfl)
          try simp only [Act.put, List.setIfInBounds_toArray, List.set_cons_zero, List.set_cons_succ]
          refine until_s0 5 (v := ?_) rfl (by kernel_rfl) (fun _ _ _ h => h) (Or.inl ⟨by rfl, ?_⟩) (by assumption) (fun h => by first | assumption | exact absurd (h : true = false) (by decide)) ?_
          rotate_left
          · intro w hSw; (try dsimp only at hSw); (try go_simp); (try with_reducible rfl)
          try simp only [Act.put, List.setIfInBounds_toArray, List.set_cons_zero, List.set_cons_succ]
          refine until_s0 6 (v := ?_) rfl (by kernel_rfl) (fun _ _ _ h => h) (Or.inl ⟨by rfl, ?_⟩) (by assumption) (fun h => by first | assumption | exact absurd (h : true = false) (by decide)) ?_
          rotate_left
          · intro w hSw; (try dsimp only at hSw); (try go_simp); (try with_reducible rfl)
          try simp only [Act.put, List.setIfInBounds_toArray, List.set_cons_zero, List.set_cons_succ]
          refine until_s0 7 (v := ?_) rfl (by kernel_rfl) (fun _ _ _ h => h) (Or.inl ⟨by rfl, ?_⟩) (by assumption) (fun h => by first | assumption | exact absurd (h : true = false) (by decide)) ?_
          rotate_left
          · intro w hSw; (try dsimp only at hSw); (try go_simp); (try with_reducible rfl)
          try simp only [Act.put, List.setIfInBounds_toArray, List.set_cons_zero, List.set_cons_succ]
          refine until_s0 8 (v := ?_) rfl (by kernel_rfl) (fun _ _ _ h => h) (Or.inl ⟨by rfl, ?_⟩) (by assumption) (fun h => by first | assumption | exact absurd (h : true = false) (by decide)) ?_
          rotate_left
          · intro w hSw; (try dsimp only at hSw); (try go_simp); (try with_reducible rfl)
          try simp only [Act.put, List.setIfInBounds_toArray, List.set_cons_zero, List.set_cons_succ]
          refine until_s0 9 (v := ?_) rfl (by kernel_rfl) (fun _ _ _ h => h) (Or.inl ⟨by rfl, ?_⟩) (by assumption) (fun h => by first | assumption | exact absurd (h : true = false) (by decide)) ?_
          rotate_left
          · intro w hSw; (try dsimp only at hSw); (try go_simp); (try with_reducible rfl)
          try simp only [Act.put, List.setIfInBounds_toArray, List.set_cons_zero, List.set_cons_succ]
          refine until_s0 10 (v := ?_) rfl (by kernel_rfl) (fun _ _ _ h => h) (Or.inl ⟨by rfl, ?_⟩) (by assumption) (fun h => by first | assumption | exact absurd (h : true = false) (by decide)) ?_
          rotate_left
          · intro w hSw; (try dsimp only at hSw); (try go_simp); (try with_reducible rfl)
          try simp only [Act.put, List.setIfInBounds_toArray, List.set_cons_zero, List.set_cons_succ]
          refine until_s0 11 (v := ?_) rfl (by kernel_rfl) (fun _ _ _ h => h) (Or.inl ⟨by rfl, ?_⟩) (by assumption) (fun h => by first | assumption | exact absurd (h : true = false) (by decide)) ?_
          rotate_left
          · intro w hSw; (try dsimp only at hSw); (try go_simp); (try with_reducible rfl)
          try simp only [Act.put, List.setIfInBounds_toArray, List.set_cons_zero, List.set_cons_succ]
          refine until_s0 12 (v := ?_) rfl (by kernel_rfl) (fun _ _ _ h => h) (Or.inl ⟨by rfl, ?_⟩) (by assumption) (fun h => by first | assumption | exact absurd (h : true = false) (by decide)) ?_
          rotate_left
          · intro w hSw; (try dsimp only at hSw); (try go_simp); (try with_reducible rfl)
          try simp only [Act.put, List.setIfInBounds_toArray, List.set_cons_zero, List.set_cons_succ]
          refine until_s0 13 (v := ?_) rfl (by kernel_rfl) (fun _ _ _ h => h) (Or.inl ⟨by rfl, ?_⟩) (by assumption) (fun h => by first | assumption | exact absurd (h : true = false) (by decide)) ?_
          rotate_left
          · intro w hSw; (try dsimp only at hSw); (try go_simp); (try with_reducible rfl)
          try simp only [Act.put, List.setIfInBounds_toArray, List.set_cons_zero, List.set_cons_succ]
          refine until_s0 14 (v := ?_) rfl (by kernel_rfl) (fun _ _ _ h => h) (Or.inl ⟨by rfl, ?_⟩) (by assumption) (fun h => by first | assumption | exact absurd (h : true = false) (by decide)) ?_
          rotate_left
          · intro w hSw; (try dsimp only at hSw); (try go_simp); (try with_reducible rfl)
          try simp only [Act.put, List.setIfInBounds_toArray, List.set_cons_zero, List.set_cons_succ]
          refine until_s0 15 (v := ?_) rfl (by kernel_rfl) (fun _ _ _ h => h) (Or.inl ⟨by rfl, ?_⟩) (by assumption) (fun h => by first | assumption | exact absurd (h : true = false) (by decide)) ?_
          rotate_left
          · intro w hSw; (try dsimp only at hSw); (try go_simp); (try with_reducible rfl)
          try simp only [Act.put, List.setIfInBounds_toArray, List.set_cons_zero, List.set_cons_succ]
          refine until_s0 16 (v := ?_) rfl (by kernel_rfl) (fun _ _ _ h => h) (Or.inl ⟨by rfl, ?_⟩) (by assumption) (fun h => by first | assumption | exact absurd (h : true = false) (by decide)) ?_
          rotate_left
          · intro w hSw; (try dsimp only at hSw); (try go_simp); (try with_reducible rfl)
          try simp only [Act.put, List.setIfInBounds_toArray, List.set_cons_zero, List.set_cons_succ]
          refine until_s0 17 (v := ?_) rfl (by kernel_rfl) (fun _ _ _ h => h) (Or.inl ⟨by rfl, ?_⟩) (by assumption) (fun h => by first | assumption | exact absurd (h : true = false) (by decide)) ?_
          rotate_left
          · intro w hSw; (try dsimp only at hSw); (try go_simp); (try with_reducible rfl)
          try simp only [Act.put, List.setIfInBounds_toArray, List.set_cons_zero, List.set_cons_succ]
          refine until_s0 18 (v := ?_) rfl (by kernel_rfl) (fun _ _ _ h => h) (Or.inl ⟨by rfl, ?_⟩) (by assumption) (fun h => by first | assumption | exact absurd (h : true = false) (by decide)) ?_
          rotate_left
          · intro w hSw; (try dsimp only at hSw); (try go_simp); (try with_reducible rfl)
          try simp only [Act.put, List.setIfInBounds_toArray, List.set_cons_zero, List.set_cons_succ]
          refine until_s0 19 (v := ?_) rfl (by kernel_rfl) (fun _ _ _ h => h) (Or.inl ⟨by rfl, ?_⟩) (by assumption) (fun h => by first | assumption | exact absurd (h : true = false) (by decide)) ?_
          rotate_left
          · intro w hSw; (try dsimp only at hSw); (try go_simp); (try with_reducible rfl)
          try simp only [Act.put, List.setIfInBounds_toArray, List.set_cons_zero, List.set_cons_succ]
          refine until_s0 20 (v := ?_) rfl (by kernel_rfl) (fun _ _ _ h => h) (Or.inl ⟨by rfl, ?_⟩) (by assumption) (fun h => by first | assumption | exact absurd (h : true = false) (by decide)) ?_
          rotate_left
          · intro w hSw; (try dsimp only at hSw); (try go_simp); (try with_reducible rfl)
          try simp only [Act.put, List.setIfInBounds_toArray, List.set_cons_zero, List.set_cons_succ]
          refine until_s0 21 (v := ?_) rfl (by kernel_rfl) (fun _ _ _ h => h) (Or.inl ⟨by rfl, ?_⟩) (by assumption) (fun h => by first | assumption | exact absurd (h : true = false) (by decide)) ?_
          rotate_left
          · intro w hSw; (try dsimp only at hSw); (try go_simp); (try with_reducible rfl)
          try simp only [Act.put, List.setIfInBounds_toArray, List.set_cons_zero, List.set_cons_succ]
          refine until_s0 22 (v := ?_) rfl (by kernel_rfl) (fun _ _ _ h => h) (Or.inl ⟨by rfl, ?_⟩) (by assumption) (fun h => by first | assumption | exact absurd (h : true = false) (by decide)) ?_
          rotate_left
          · intro w hSw; (try dsimp only at hSw); (try go_simp); (try with_reducible rfl)
          try simp only [Act.put, List.setIfInBounds_toArray, List.set_cons_zero, List.set_cons_succ]
          refine until_s0 23 (v := ?_) rfl (by kernel_rfl) (fun _ _ _ h => h) (Or.inl ⟨by rfl, ?_⟩) (by assumption) (fun h => by first | assumption | exact absurd (h : true = false) (by decide)) ?_
          rotate_left
          · intro w hSw; (try dsimp only at hSw); (try go_simp); (try with_reducible rfl)
          try simp only [Act.put, List.setIfInBounds_toArray, List.set_cons_zero, List.set_cons_succ]
          clear s0
          refine until_done (by kernel_rfl) ?_ _
          go_upto_region 13 with fail
          have HR := Lib.hid (hR.keep hF (by simp))
          clear b0 b1 b2 b3 b4 b5 b6 b7
          try rw [show ((16 + 48 : Nat) : Int) = 64 from rfl]
          try rw [show ((16 : Nat) : Int) = 16 from rfl]
          obtain ⟨W, hW⟩ : ∃ W, W = sch M 48 := ⟨_, rfl⟩
          rw [← hW] at h2 hml HH
          have HW := Lib.hid hW
          clear hW hpad
          go_wp2_with (refine wpList_load_mid rfl 85 (.global 1) rfl 1 0 rfl _ _ HR.out Tryd.underlying85 rfl (by kernel_rfl) ?_)
          go_loopw [10, 11, 12, 13, 14, 15, 16, 17, 96] (fun va vb vc vd ve vf vg vh vn wr' => ∃ n : Nat, n ≤ 64 ∧ vn = .int .i64 n ∧ va = .int .u32 (wd (steps H W n).a) ∧ vb = .int .u32 (wd (steps H W n).b) ∧ vc = .int .u32 (wd (steps H W n).c) ∧ vd = .int .u32 (wd (steps H W n).d) ∧ ve = .int .u32 (wd (steps H W n).e) ∧ vf = .int .u32 (wd (steps H W n).f) ∧ vg = .int .u32 (wd (steps H W n).g) ∧ vh = .int .u32 (wd (steps H W n).h) ∧
            At wr' (w.heap.size + 2) 85 (wcells W) ∧ At wr' w.heap.size 72 (wcells H) ∧ At wr' (w.heap.size + 1) 72 (List.replicate 8 (.int .u32 0)) ∧ Fr [] w wr') (fun _ _ _ _ _ _ _ _ v _ => 64 - (intOf v).toNat)
          case atStart =>
            refine ⟨0, by omega, rfl, ?_, ?_, ?_, ?_, ?_, ?_, ?_, ?_, h2, h0, h1, hF.trans (Fr.drew _ _)⟩
            all_goals rw [HH.out]
          case round =>
            clear h0 h1 h2 hF HH
            obtain ⟨n, hn, rfl, rfl, rfl, rfl, rfl, rfl, rfl, rfl, rfl, h2, h0, h1, hF⟩ := hrel
            by_cases hl : n < 64
            · have l1 : (n : Int) < 64 := by omega
              have hsu : steps H W (n + 1) = (steps H W n).step (rootsL.getD n 0) (W.getD n 0) := rfl
              have ix : (Instr.index 85 (.agg (wcells rootsL).toArray) (.int .i64 n)).run Tryd.prog wr = .ok (.int .u32 (wd (rootsL.getD n 0))) wr := idxRoots wr n hl
              have cm := h2.cell n
              rw [wcells_get _ _ (by omega)] at cm
              generalize W.getD n 0 = wn at cm hsu
              generalize rootsL.getD n 0 = kn at ix hsu
              obtain ⟨⟨a, b, c, d, e, f, g', h⟩, hs⟩ : ∃ s, s = steps H W n := ⟨_, rfl⟩
              rw [← hs] at hsu ⊢
              have HS := Lib.hid hsu
              clear hsu hs
              dsimp only
              go_wp2_with fail
              refine wp_region_until (fun w' => w'.cell? ⟨w.heap.size + 1 + 1, n, none⟩ = some (.int .u32 (wd wn))) (fun _ => True) 1000 (by rfl) ?_
              have hT : True := trivial
              have s0 : _ = _ := cm
              refine until_s0 0 (v := ?_) rfl (by kernel_rfl) (fun _ _ _ h => h) (Or.inl ⟨by rfl, ?_⟩) (by assumption) (fun h => by first | assumption | exact absurd (h : true = false) (by decide)) ?_
              rotate_left
              · intro w hSw; (try dsimp only at hSw); (try go_simp); (try with_reducible rfl)
              try simp only [Act.put, List.setIfInBounds_toArray, List.set_cons_zero, List.set_cons_succ]
              refine until_s0 1 (v := ?_) rfl (by kernel_rfl) (fun _ _ _ h => h) (Or.inl ⟨by rfl, ?_⟩) (by assumption) (fun h => by first | assumption | exact absurd (h : true = false) (by decide)) ?_
              rotate_left
              · intro w hSw; (try dsimp only at hSw); (try go_simp); (try with_reducible rfl)
              try simp only [Act.put, List.setIfInBounds_toArray, List.set_cons_zero, List.set_cons_succ]
              refine until_s0 3 (v := ?_) rfl (by kernel_rfl) (fun _ _ _ h => h) (Or.inl ⟨by rfl, ?_⟩) (by assumption) (fun h => by first | assumption | exact absurd (h : true = false) (by decide)) ?_
              rotate_left
              · intro w hSw; (try dsimp only at hSw); (try go_simp); (try with_reducible rfl)
              try simp only [Act.put, List.setIfInBounds_toArray, List.set_cons_zero, List.set_cons_succ]
              refine until_s0 6 (v := ?_) rfl (by kernel_rfl) (fun _ _ _ h => h) (Or.inl ⟨by rfl, ?_⟩) (by assumption) (fun h => by first | assumption | exact absurd (h : true = false) (by decide)) ?_
              rotate_left
              · intro w hSw; (try dsimp only at hSw); (try go_simp); (try with_reducible rfl)
              try simp only [Act.put, List.setIfInBounds_toArray, List.set_cons_zero, List.set_cons_succ]
              refine until_s0 10 (v := ?_) rfl (by kernel_rfl) (fun _ _ _ h => h) (Or.inl ⟨by rfl, ?_⟩) (by assumption) (fun h => by first | assumption | exact absurd (h : true = false) (by decide)) ?_
              rotate_left
              · intro w hSw; (try dsimp only at hSw); (try go_simp); (try with_reducible rfl)
              try simp only [Act.put, List.setIfInBounds_toArray, List.set_cons_zero, List.set_cons_succ]
              refine until_s0 11 (v := ?_) rfl (by kernel_rfl) (fun _ _ _ h => h) (Or.inl ⟨by rfl, ?_⟩) (by assumption) (fun h => by first | assumption | exact absurd (h : true = false) (by decide)) ?_
              rotate_left
              · intro w hSw; (try dsimp only at hSw); (try go_simp); (try with_reducible rfl)
              try simp only [Act.put, List.setIfInBounds_toArray, List.set_cons_zero, List.set_cons_succ]
              refine until_s0 12 (v := ?_) rfl (by kernel_rfl) (fun _ _ _ h => h) (Or.inl ⟨by rfl, ?_⟩) (by assumption) (fun h => by first | assumption | exact absurd (h : true = false) (by decide)) ?_
              rotate_left
              · intro w hSw; (try dsimp only at hSw); (try go_simp); (try with_reducible rfl)
              try simp only [Act.put, List.setIfInBounds_toArray, List.set_cons_zero, List.set_cons_succ]
              refine until_s0 13 (v := ?_) rfl (by kernel_rfl) (fun _ _ _ h => h) (Or.inl ⟨by rfl, ?_⟩) (by assumption) (fun h => by first | assumption | exact absurd (h : true = false) (by decide)) ?_
              rotate_left
              · intro w hSw; (try dsimp only at hSw); (try go_simp); (try with_reducible rfl)
              try simp only [Act.put, List.setIfInBounds_toArray, List.set_cons_zero, List.set_cons_succ]
              refine until_s0 14 (v := ?_) rfl (by kernel_rfl) (fun _ _ _ h => h) (Or.inl ⟨by rfl, ?_⟩) (by assumption) (fun h => by first | assumption | exact absurd (h : true = false) (by decide)) ?_
              rotate_left
              · intro w hSw; (try dsimp only at hSw); (try go_simp); (try with_reducible rfl)
              try simp only [Act.put, List.setIfInBounds_toArray, List.set_cons_zero, List.set_cons_succ]
              refine until_s0 15 (v := ?_) rfl (by kernel_rfl) (fun _ _ _ h => h) (Or.inl ⟨by rfl, ?_⟩) (by assumption) (fun h => by first | assumption | exact absurd (h : true = false) (by decide)) ?_
              rotate_left
              · intro w hSw; (try dsimp only at hSw); (try go_simp); (try with_reducible rfl)
              try simp only [Act.put, List.setIfInBounds_toArray, List.set_cons_zero, List.set_cons_succ]
              refine until_s0 16 (v := ?_) rfl (by kernel_rfl) (fun _ _ _ h => h) (Or.inl ⟨by rfl, ?_⟩) (by assumption) (fun h => by first | assumption | exact absurd (h : true = false) (by decide)) ?_
              rotate_left
              · intro w hSw; (try dsimp only at hSw); (try go_simp); (try with_reducible rfl)
              try simp only [Act.put, List.setIfInBounds_toArray, List.set_cons_zero, List.set_cons_succ]
              refine until_s0 17 (v := ?_) rfl (by kernel_rfl) (fun _ _ _ h => h) (Or.inl ⟨by rfl, ?_⟩) (by assumption) (fun h => by first | assumption | exact absurd (h : true = false) (by decide)) ?_
              rotate_left
              · intro w hSw; (try dsimp only at hSw); (try go_simp); (try with_reducible rfl)
              try simp only [Act.put, List.setIfInBounds_toArray, List.set_cons_zero, List.set_cons_succ]
              refine until_s0 19 (v := ?_) rfl (by kernel_rfl) (fun _ _ _ h => h) (Or.inl ⟨by rfl, ?_⟩) (by assumption) (fun h => by first | assumption | exact absurd (h : true = false) (by decide)) ?_
              rotate_left
              · intro w hSw; (try dsimp only at hSw); (try go_simp); (try with_reducible rfl)
              try simp only [Act.put, List.setIfInBounds_toArray, List.set_cons_zero, List.set_cons_succ]
              refine until_s0 21 (v := ?_) rfl (by kernel_rfl) (fun _ _ _ h => h) (Or.inl ⟨by rfl, ?_⟩) (by assumption) (fun h => by first | assumption | exact absurd (h : true = false) (by decide)) ?_
              rotate_left
              · intro w hSw; (try dsimp only at hSw); (try go_simp); (try with_reducible rfl)
              try simp only [Act.put, List.setIfInBounds_toArray, List.set_cons_zero, List.set_cons_succ]
              refine until_s0 22 (v := ?_) rfl (by kernel_rfl) (fun _ _ _ h => h) (Or.inl ⟨by rfl, ?_⟩) (by assumption) (fun h => by first | assumption | exact absurd (h : true = false) (by decide)) ?_
              rotate_left
              · intro w hSw; (try dsimp only at hSw); (try go_simp); (try with_reducible rfl)
              try simp only [Act.put, List.setIfInBounds_toArray, List.set_cons_zero, List.set_cons_succ]
              refine until_s0 23 (v := ?_) rfl (by kernel_rfl) (fun _ _ _ h => h) (Or.inl ⟨by rfl, ?_⟩) (by assumption) (fun h => by first | assumption | exact absurd (h : true = false) (by decide)) ?_
              rotate_left
              · intro w hSw; (try dsimp only at hSw); (try go_simp); (try with_reducible rfl)
              try simp only [Act.put, List.setIfInBounds_toArray, List.set_cons_zero, List.set_cons_succ]
              refine until_sole 2 rfl (by kernel_rfl) (by rfl) ?_
              intro K' hK
              go_simp
              go_at_call 47
              refine (turn_any e 6 (by decide) _).mono ?_
              rintro _ w' ⟨rfl, rfl⟩
              go_wp2_with fail
              refine hK _ _ s0 (fun _ => trivial) ?_
              clear hK
              skip
              refine until_sole 4 rfl (by kernel_rfl) (by rfl) ?_
              intro K' hK
              go_simp
              go_at_call 47
              refine (turn_any e 11 (by decide) _).mono ?_
              rintro _ w' ⟨rfl, rfl⟩
              go_wp2_with fail
              refine hK _ _ s0 (fun _ => trivial) ?_
              clear hK
              refine until_s0 5 (v := ?_) rfl (by kernel_rfl) (fun _ _ _ h => h) (Or.inl ⟨by rfl, ?_⟩) (by assumption) (fun h => by first | assumption | exact absurd (h : true = false) (by decide)) ?_
              rotate_left
              · intro w hSw; (try dsimp only at hSw); (try go_simp); (try with_reducible rfl)
              try simp only [Act.put, List.setIfInBounds_toArray, List.set_cons_zero, List.set_cons_succ]
              refine until_sole 7 rfl (by kernel_rfl) (by rfl) ?_
              intro K' hK
              go_simp
              go_at_call 47
              refine (turn_any e 25 (by decide) _).mono ?_
              rintro _ w' ⟨rfl, rfl⟩
              go_wp2_with fail
              refine hK _ _ s0 (fun _ => trivial) ?_
              clear hK
              refine until_s0 8 (v := ?_) rfl (by kernel_rfl) (fun _ _ _ h => h) (Or.inl ⟨by rfl, ?_⟩) (by assumption) (fun h => by first | assumption | exact absurd (h : true = false) (by decide)) ?_
              rotate_left
              · intro w hSw; (try dsimp only at hSw); (try go_simp); (try with_reducible rfl)
              try simp only [Act.put, List.setIfInBounds_toArray, List.set_cons_zero, List.set_cons_succ]
              refine until_s0 9 (v := ?_) rfl (by kernel_rfl) (fun _ _ _ h => h) (Or.inl ⟨by rfl, ?_⟩) (by assumption) (fun h => by first | assumption | exact absurd (h : true = false) (by decide)) ?_
              rotate_left
              · intro w hSw; (try dsimp only at hSw); (try go_simp); (try with_reducible rfl)
              try simp only [Act.put, List.setIfInBounds_toArray, List.set_cons_zero, List.set_cons_succ]
              refine until_s0 18 (v := ?_) rfl (by kernel_rfl) (fun _ _ _ h => h) (Or.inl ⟨by rfl, ?_⟩) (by assumption) (fun h => by first | assumption | exact absurd (h : true = false) (by decide)) ?_
              rotate_left
              · intro w hSw; (try dsimp only at hSw); (try go_simp); (try with_reducible rfl)
              try simp only [Act.put, List.setIfInBounds_toArray, List.set_cons_zero, List.set_cons_succ]
              refine until_s0 20 (v := ?_) rfl (by kernel_rfl) (fun _ _ _ h => h) (Or.inl ⟨by rfl, ?_⟩) (by assumption) (fun h => by first | assumption | exact absurd (h : true = false) (by decide)) ?_
              rotate_left
              · intro w hSw; (try dsimp only at hSw); (try go_simp); (try with_reducible rfl)
              try simp only [Act.put, List.setIfInBounds_toArray, List.set_cons_zero, List.set_cons_succ]
              refine until_s0 24 (v := ?_) rfl (by kernel_rfl) (fun _ _ _ h => h) (Or.inl ⟨by rfl, ?_⟩) (by assumption) (fun h => by first | assumption | exact absurd (h : true = false) (by decide)) ?_
              rotate_left
              · intro w hSw; (try dsimp only at hSw); (try go_simp); (try with_reducible rfl)
              try simp only [Act.put, List.setIfInBounds_toArray, List.set_cons_zero, List.set_cons_succ]
              refine until_s0 25 (v := ?_) rfl (by kernel_rfl) (fun _ _ _ h => h) (Or.inl ⟨by rfl, ?_⟩) (by assumption) (fun h => by first | assumption | exact absurd (h : true = false) (by decide)) ?_
              rotate_left
              · intro w hSw; (try dsimp only at hSw); (try go_simp); (try with_reducible rfl)
              try simp only [Act.put, List.setIfInBounds_toArray, List.set_cons_zero, List.set_cons_succ]
              refine until_done (by kernel_rfl) ?_ _
              have ta : ∀ w, Calls Tryd.prog 47 #[.int .u32 (wd a), .int .i64 2] w _ := fun w => turn_any a 2 (by decide) w
              have tb : ∀ w, Calls Tryd.prog 47 #[.int .u32 (wd a), .int .i64 13] w _ := fun w => turn_any a 13 (by decide) w
              have tc : ∀ w, Calls Tryd.prog 47 #[.int .u32 (wd a), .int .i64 22] w _ := fun w => turn_any a 22 (by decide) w
              clear s0 cm ix
              go_wp2_with (first
                | (go_at_call 47; first
                  | (refine (ta _).mono ?_; clear ta; rintro _ w' ⟨rfl, rfl⟩)
                  | (refine (tb _).mono ?_; clear tb; rintro _ w' ⟨rfl, rfl⟩)
                  | (refine (tc _).mono ?_; clear tc; rintro _ w' ⟨rfl, rfl⟩))
                | fail)
              refine ⟨⟨n + 1, by omega, by simp, ?_, ?_, ?_, ?_, ?_, ?_, ?_, ?_, h2.drew, h0.drew, h1.drew, hF.trans (Fr.drew _ _)⟩, by simp only [intOf]; omega⟩
              all_goals rw [HS.out]; rfl
            · obtain rfl : n = 64 := by omega
              obtain ⟨⟨a, b, c, d, e, f, g', h⟩, hs⟩ : ∃ s, s = steps H W 64 := ⟨_, rfl⟩
              have HE := Lib.hid (show mixL H (wordsB B) = [H.getD 0 0 + a, H.getD 1 0 + b, H.getD 2 0 + c, H.getD 3 0 + d, H.getD 4 0 + e, H.getD 5 0 + f, H.getD 6 0 + g', H.getD 7 0 + h] by
                unfold mixL
                rw [← HM.out, ← HW.out, ← hs]
                exact zip8 H hH _)
              rw [← hs]
              clear hs
              dsimp only
              have b0 := h0.cell 0
              have b1 := h0.cell 1
              have b2 := h0.cell 2
              have b3 := h0.cell 3
              have b4 := h0.cell 4
              have b5 := h0.cell 5
              have b6 := h0.cell 6
              have b7 := h0.cell 7
              rw [wcells_get _ _ (by omega)] at b0 b1 b2 b3 b4 b5 b6 b7
              generalize H.getD 0 0 = ha at b0 HE
              generalize H.getD 1 0 = hb at b1 HE
              generalize H.getD 2 0 = hc at b2 HE
              generalize H.getD 3 0 = hd at b3 HE
              generalize H.getD 4 0 = he at b4 HE
              generalize H.getD 5 0 = hf at b5 HE
              generalize H.getD 6 0 = hg at b6 HE
              generalize H.getD 7 0 = hh at b7 HE
              have hsz : (Tryd.prog.info? 72).map (·.size) = some (wcells [ha + a, hb + b, hc + c, hd + d, he + e, hf + f, hg + g', hh + h]).toArray.size := by kernel_rfl
              have hold : (List.replicate 8 (Value.int IntKind.u32 0)).toArray.size = (wcells [ha + a, hb + b, hc + c, hd + d, he + e, hf + f, hg + g', hh + h]).toArray.size := rfl
              have hall : (wcells [ha + a, hb + b, hc + c, hd + d, he + e, hf + f, hg + g', hh + h]).toArray.all (·.oneCell') = true := all_oneCell_toArray (by intro v hv; obtain ⟨x, _, rfl⟩ := List.mem_map.1 hv; rfl)
              go_wp2_with (first
                | refine wpList_store_row rfl _ _ _ rfl _ (wcells [ha + a, hb + b, hc + c, hd + d, he + e, hf + f, hg + g', hh + h]).toArray rfl (by simp only [Act.eval]; rfl) _ _ h1.out hsz hold hall ?_
                | fail)
              rw [HE.out]
              have h2' := h1.setRow (wcells [ha + a, hb + b, hc + c, hd + d, he + e, hf + f, hg + g', hh + h]).toArray
              rw [List.toList_toArray] at h2'
              refine ⟨rfl, _, ?_, rfl, hF.new (S := [w.heap.size + 1]) (Fr.setRow _ _ _ _ (.inl (by simp))) (by simp)⟩
              refine results_cell_row (p := 4) (ty := 72) (by rfl) _ _ (w.heap.size + 1) 72 _ (0, 0) _ ?_ h2'.out Tryd.underlying72 rfl hsz
              simp only [Act.put, List.setIfInBounds_toArray, List.set_cons_zero, List.set_cons_succ, Array.getD_eq_getD_getElem?, List.getElem?_toArray, List.getElem?_cons_succ, List.getElem?_cons_zero, Option.getD_some]
end Go.Proofs.YtkagmoaapampgaaDoor
