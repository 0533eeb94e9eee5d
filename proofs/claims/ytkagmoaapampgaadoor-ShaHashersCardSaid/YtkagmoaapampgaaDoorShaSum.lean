/- words, NewHasher, the running sum's Sum, and Sum of the program. -/
import Derived.Test.YtkagmoaapampgaaDoorShaTake
namespace Go.Proofs.YtkagmoaapampgaaDoor
open Go.RowKit Go.Lib Go.Joins Base
set_option linter.unusedVariables false
set_option linter.unusedSimpArgs false

/-- A value built out of parts, when what comes out is known. -/
theorem wpList_built {P : Program} {ops : Array Oper} {rest : List Oper} {o : Oper} {a : Act} {w : World} {Q : Exit → Act → World → Prop} (hg : o.guard = none) (t : TypeId) (parts : Array (Nat × Operand)) (ho : o.op = .build t parts) (cells : Array Value)
    (hb : P.built t (parts.map fun (i, x) => (i, a.eval x)).toList = some cells) (h : wpList P ops Q rest (a.put o.dst (.agg cells)) w) : wpList P ops Q (o :: rest) a w := by
  refine wpList_build hg t parts ho (by rw [hb]; rfl) ?_
  rw [hb]; exact h
theorem idxH (a b c d e f g h : UInt32) (w : World) : ∀ i : Nat, i < 8 → (Instr.index 72 (.agg (wcells [a, b, c, d, e, f, g, h]).toArray) (.int .i64 i)).run Tryd.prog w = .ok (.int .u32 (wd ([a, b, c, d, e, f, g, h].getD i 0))) w
  | 0, _ => by kernel_rfl
  | 1, _ => by kernel_rfl
  | 2, _ => by kernel_rfl
  | 3, _ => by kernel_rfl
  | 4, _ => by kernel_rfl
  | 5, _ => by kernel_rfl
  | 6, _ => by kernel_rfl
  | 7, _ => by kernel_rfl
  | n + 8, h => by omega
theorem idx8 (H : List UInt32) (hH : H.length = 8) (w : World) (i : Nat) (hi : i < 8) : (Instr.index 72 (.agg (wcells H).toArray) (.int .i64 i)).run Tryd.prog w = .ok (.int .u32 (wd (H.getD i 0))) w := by
  match H, hH with
  | [a, b, c, d, e, f, g, h], _ => exact idxH a b c d e f g h w i hi

set_option maxRecDepth 100000 in
set_option maxHeartbeats 1000000 in
theorem words_any (H : List UInt32) (hH : H.length = 8) (w : World) :
    Calls Tryd.prog 41 #[.agg (wcells H).toArray] w fun e w' => e = .returned (.string ⟨(toldL H).toArray⟩) ∧ Fr [] w w' := by
  have hsz : (Tryd.prog.info? 72).map (·.size) = some (wcells H).toArray.size := by
    rw [List.size_toArray, wcells_len, hH]; kernel_rfl
  have A0 := At.alloc_new w 72 (wcells H).toArray
  have hmk : ∀ w, (Instr.makeSlice 28 (.int .i64 0) (.int .i64 32)).run Tryd.prog w = .ok (.slice (some ⟨w.heap.size, 0, none⟩) 0 32) (w.alloc (.cells (byteCells (zerosB 32)).toArray 5)) := fun w => by kernel_rfl
  go_enter Tryd.func41, Tryd.ntmps41
  go_wp2_with (first
    | refine wpList_load_row rfl _ _ rfl _ rfl _ _ _ _ (A0.alloc _).out Tryd.underlying72 rfl hsz ?_
    | fail)
  have o0 : ((w.alloc (.cells (wcells H).toArray 72)).alloc (.cells (byteCells (zerosB 32)).toArray 5)).ownsRow w.heap.size 5 1 (.slice (some ⟨w.heap.size + 1, 0, none⟩) 0 32) 0 (byteCells []) :=
    ⟨rfl, .inr ⟨w.heap.size + 1, 32, (byteCells (zerosB 32)).toArray, rfl, by omega, by have := heap_alloc_new (w.alloc (.cells (wcells H).toArray 72)) (.cells (byteCells (zerosB 32)).toArray 5); simpa using this, by omega, by simp [maxLen], by simp [byteCells_length, zerosB], by simp [byteCells]⟩⟩
  clear A0 hsz hmk
  go_loopw [3, 8] (fun v3 v8 wr => ∃ i : Nat, i ≤ 8 ∧ v8 = .int .i64 i ∧ wr.ownsRow w.heap.size 5 1 v3 (4 * i) (byteCells (toldL (H.take i))) ∧ Below w.heap.size w wr) (fun _ v _ => 8 - (intOf v).toNat)
  case atStart => exact ⟨0, by omega, rfl, by simpa [toldL] using o0, ((Fr.alloc _ _ _).trans (Fr.alloc _ _ _)).below⟩
  case round =>
    clear o0
    obtain ⟨i, hi, rfl, h0, hF⟩ := hrel
    by_cases hl : i < 8
    · have l1 : (i : Int) < 8 := by omega
      have ix := idx8 H hH wr i hl
      have ht : toldL (H.take (i + 1)) = toldL (H.take i) ++ bigL (H.getD i 0).toNat 4 := by
        unfold toldL
        rw [List.take_add_one, List.getElem?_eq_getElem (by omega), List.flatMap_append]
        simp [bytesW, List.getD, show i < H.length by omega]
      have HT := Lib.hid ht
      clear ht
      generalize H.getD i 0 = x at ix HT
      have hsz := hF.size
      have hbig : ∀ v, _ → Calls Tryd.prog 42 #[v, .int .u64 (wd x), .int .i64 4] wr _ := fun v (h : wr.ownsRow w.heap.size 5 1 v (4 * i) (byteCells (toldL (H.take i)))) => big_any w.heap.size (toldL (H.take i)) (4 * i) v x.toNat (by have := x.toNat_lt; omega) 4 (by omega) (by omega) wr h hsz
      go_wp2_with (first
        | (go_at_call 42; refine (hbig _ h0).mono ?_; rintro e w2 ⟨v2, rfl, o2, b2⟩)
        | fail)
      refine ⟨⟨i + 1, by omega, by simp, ?_, hF.trans b2⟩, by simp only [intOf]; omega⟩
      rw [HT.out]; exact o2
    · obtain rfl : i = 8 := by omega
      rw [List.take_of_length_le (by omega)] at h0
      have hcv := run_strOwn Tryd.underlying28 Tryd.underlying5 Tryd.underlying9 h0
      go_wp2_with fail
      go_ret
      exact ⟨rfl, Fr.ofBelow hF⟩

theorem Roots.lt {w : World} (h : Roots w) : 1 < w.heap.size := by
  have hc := h 0 _ rfl
  rcases Nat.lt_or_ge 1 w.heap.size with h' | h'
  · exact h'
  · simp only [World.cell?, Array.getElem?_eq_none h'] at hc; cases hc
def First (w : World) : Prop := w.rangeAt 0 0 (wcells firstL)
set_option maxRecDepth 100000 in
set_option maxHeartbeats 1000000 in
theorem newHasher_any (w : World) (hI : First w) (hR : Roots w) :
    Calls Tryd.prog 22 #[] w fun e w' => e = .returned (.pointer (some ⟨w.heap.size, 0, none⟩)) ∧ Hold w' w.heap.size firstL [] 0 ∧ Fr [] w w' := by
  go_enter Tryd.func22, Tryd.ntmps22
  go_wp2_with (first
    | refine wpList_load_mid rfl 72 (.global 0) rfl 0 0 rfl _ _ hI Tryd.underlying72 rfl (by kernel_rfl) ?_
    | refine wpList_built rfl _ _ rfl (hcells firstL (zerosB 64) 0).toArray (by kernel_rfl) ?_
    | fail)
  go_ret
  have hlt := hR.lt
  have A := At.alloc_new w 75 (hcells firstL (zerosB 64) 0).toArray
  rw [List.toList_toArray] at A
  exact ⟨rfl, ⟨by omega, rfl, rfl, zerosB 64, by simp [zerosB], rfl, A⟩, Fr.alloc _ _ _⟩

theorem zerosB_succ (n : Nat) : zerosB (n + 1) = zerosB n ++ [0] := by simp [zerosB, List.replicate_succ']
def sliceLen : Value → Nat
  | .slice _ n _ => n
  | _ => 0
set_option maxRecDepth 100000 in
set_option maxHeartbeats 1000000 in
theorem hsum_any (H : List UInt32) (rest : List UInt8) (n b : Nat) (hn : n ≤ 1152921504606846976) (w : World) (hR : Roots w) (h : Hold w b H rest n) :
    Calls Tryd.prog 24 #[.pointer (some ⟨b, 0, none⟩)] w fun e w' => e = .returned (.string ⟨(sumOf H rest n).toArray⟩) ∧ Fr [] w w' := by
  have h' := h
  have hps : n + (⟨(padL n).toArray⟩ : ByteArray).size ≤ 4611686018427387904 := by
    have : (padL n).length ≤ 73 := by simp [padL, bigL_len, zerosB, zerosN]; omega
    show n + (padL n).toArray.size ≤ _
    rw [List.size_toArray]; omega
  obtain ⟨hb, hH, hr, tail, htl, htk, hA⟩ := h
  have hlt := hA.lt
  have hrl := hR.lt
  have hi5 : (Tryd.prog.info? 5).map (fun i => (i.zero, i.size, i.bytes)) = some (some (.int .u8 0), 1, 1) := by kernel_rfl
  obtain ⟨iI, hiI, hz0, hz1, hz2⟩ := info_parts hi5
  have hcl : (hcells H tail n).length = 73 := by simp [hcells, wcells_len, byteCells_length, hH, htl]
  have hsz : (Tryd.prog.info? 75).map (·.size) = some (hcells H tail n).toArray.size := by rw [List.size_toArray, hcl]; kernel_rfl
  have hall : (hcells H tail n).toArray.all (·.oneCell') = true := all_oneCell_toArray (by
    intro v hv
    simp only [hcells, List.mem_append, List.mem_singleton] at hv
    rcases hv with (hv | hv) | hv
    · obtain ⟨x, _, rfl⟩ := List.mem_map.1 hv; rfl
    · exact byteCells_one _ _ hv
    · subst hv; rfl)
  have hold : (hcells [0, 0, 0, 0, 0, 0, 0, 0] (zerosB 64) 0).toArray.size = (hcells H tail n).toArray.size := by rw [List.size_toArray, List.size_toArray, hcl]; rfl
  have hz : ∀ w, (zeroValue 75).run Tryd.prog w = .ok (.agg (hcells [0, 0, 0, 0, 0, 0, 0, 0] (zerosB 64) 0).toArray) w := fun w => by kernel_rfl
  have hmk : ∀ w, (Instr.makeSlice 28 (.int .i64 1) (.int .i64 73)).run Tryd.prog w = .ok (.slice (some ⟨w.heap.size, 0, none⟩) 1 73) (w.alloc (.cells (byteCells (zerosB 73)).toArray 5)) := fun w => by kernel_rfl
  go_enter Tryd.func24, Tryd.ntmps24
  go_wp2_with (first
    | refine wpList_load_row rfl _ _ rfl _ rfl _ _ _ _ hA.out Tryd.underlying75 rfl hsz ?_
    | refine wpList_store_row rfl _ _ _ rfl _ _ rfl rfl _ _ (heap_alloc_new _ _) hsz hold hall ?_
    | fail)
  obtain ⟨w1, hw1⟩ : ∃ w1, w1 = (w.alloc (.cells (hcells [0, 0, 0, 0, 0, 0, 0, 0] (zerosB 64) 0).toArray 75)).setRow w.heap.size (hcells H tail n).toArray := ⟨_, rfl⟩
  have A1 := (At.alloc_new w 75 (hcells [0, 0, 0, 0, 0, 0, 0, 0] (zerosB 64) 0).toArray).setRow (hcells H tail n).toArray
  rw [List.toList_toArray, ← hw1] at A1
  have F1 : Fr [] w w1 := by rw [hw1]; exact (Fr.refl [] w).new (S := [w.heap.size]) ((Fr.alloc _ _ _).trans (Fr.setRow _ _ _ _ (.inl (by simp)))) (by simp)
  have hs1 : w1.heap.size = w.heap.size + 1 := by rw [hw1]; simp
  rw [← hw1, ← hs1]
  have o0 : (w1.alloc (.cells ((byteCells (zerosB 73)).set 0 (Value.int .u8 128)).toArray 5)).ownsRow w1.heap.size 5 1 (.slice (some ⟨w1.heap.size, 0, none⟩) 1 73) 1 (byteCells (128 :: zerosB 0)) :=
    ⟨rfl, .inr ⟨w1.heap.size, 73, ((byteCells (zerosB 73)).set 0 (Value.int .u8 128)).toArray, rfl, by omega, heap_alloc_new _ _, by omega, by simp [maxLen], by simp [byteCells_length, zerosB], by rfl⟩⟩
  have HS1 := Lib.hid hs1
  clear hw1 hsz hall hold hz hmk hcl hs1
  go_loopw [4] (fun v4 wr => ∃ z : Nat, z ≤ zerosN n ∧ wr.ownsRow w1.heap.size 5 1 v4 (1 + z) (byteCells (128 :: zerosB z)) ∧ Below w1.heap.size w1 wr) (fun v _ => 100 - sliceLen v)
  case atStart => exact ⟨0, by omega, o0, (Fr.alloc [] _ _).below⟩
  case round =>
    clear o0
    obtain ⟨z, hi, h0, hF⟩ := hrel
    have hzN : zerosN n < 64 := by unfold zerosN; omega
    have FB := Fr.ofBelow hF
    have c72 := ((F1.trans FB).keep hA (by simp)).cell 72
    have hl72 : (hcells H tail n)[72]? = some (.int .i64 n) := by
      unfold hcells
      rw [List.getElem?_append_right (by simp [wcells_len, byteCells_length]; omega)]
      simp [wcells_len, byteCells_length, hH, htl]
    rw [hl72] at c72
    rcases ownsRow_forms h0 with ⟨rfl, h1⟩ | ⟨g, cap, rfl⟩
    · omega
    have w1' : IntKind.i64.wrap ((n : Int) + (1 + (z : Int))) = ((n + 1 + z : Nat) : Int) := by rw [IntWalk.i64_in _ (by omega)]; omega
    have w2' : ((n + 1 + z : Nat) : Int).tmod 64 = ((n + 1 + z) % 64 : Nat) := by rw [Int.tmod_eq_emod_of_nonneg (by omega)]; omega
    by_cases hl : (n + 1 + z) % 64 = 56
    · have hz56 : z = zerosN n := by unfold zerosN at *; omega
      have l1 : (((n + 1 + z) % 64 : Nat) : Int) = 56 := by omega
      have HZ := Lib.hid hz56
      have w3 : IntKind.u64.wrap (n : Int) = n := wrap64_nat n (by omega)
      have w4 : ∀ t, binOp .shl t (.int .u64 (n : Int)) (.int .u64 3) = pure (.int .u64 ((8 * n : Nat) : Int)) := by
        intro t
        have e : IntKind.u64.wrap ((n : Int) * 8) = ((8 * n : Nat) : Int) := by
          rw [show (n : Int) * 8 = ((8 * n : Nat) : Int) by omega]; exact wrap64_nat _ (by omega)
        rw [binOp_shl]
        simp [Op.shift, ← e]
        rw [show (2 : Int) ^ min 3 IntKind.u64.bits = 8 from rfl]
      have hsz := hF.size
      have hbig : ∀ v, _ → Calls Tryd.prog 42 #[v, .int .u64 ((8 * n : Nat) : Int), .int .i64 8] wr _ := fun v (h : wr.ownsRow w1.heap.size 5 1 v (1 + z) (byteCells (128 :: zerosB z))) => big_any w1.heap.size (128 :: zerosB z) (1 + z) v (8 * n) (by omega) 8 (by omega) (by omega) wr h hsz
      have hpad : 128 :: zerosB z ++ bigL (8 * n) 8 = padL n := by rw [hz56]; rfl
      rw [hpad] at hbig
      clear hz56 hl hl72 hzN
      generalize ((8 * n : Nat) : Int) = n8 at w4 hbig
      go_wp2_with (first
        | (go_at_call 42; refine (hbig _ h0).mono ?_; rintro e w2 ⟨v2, rfl, o2, b2⟩; have hcv := run_strOwn Tryd.underlying28 Tryd.underlying5 Tryd.underlying9 o2)
        | (go_at_call 26; have F2 : Fr [] w1 w2 := Fr.ofBelow (hF.trans b2); refine (take_any H rest n w.heap.size ⟨(padL n).toArray⟩ hps _ (hR.keep (F1.trans F2) (by simp)) ⟨Nat.ne_of_gt hrl, hH, hr, tail, htl, htk, F2.keep A1 (by simp)⟩).mono ?_; rintro e w3 ⟨rfl, ⟨_, hH3, _, tail3, _, _, A3⟩, f3⟩; clear hA h' A1 c72; have hi3 : (Tryd.prog.info? 72).map (·.size) = some (wcells (wordsOf H (rest ++ padL n))).length := (by rw [wcells_len, wordsOf_len _ _ hH]; kernel_rfl))
        | refine wpList_load_mid rfl _ _ rfl w.heap.size 0 rfl (wcells (wordsOf H (rest ++ padL n))) _ (state_range A3) Tryd.underlying72 rfl hi3 ?_
        | (go_at_call 41; refine (words_any (wordsOf H (rest ++ padL n)) (wordsOf_len _ _ hH) _).mono ?_; rintro e w4 ⟨rfl, f4⟩)
        | fail)
      go_ret
      exact ⟨rfl, ((F1.trans (Fr.ofBelow (hF.trans b2))).new (S := [w.heap.size]) f3 (by simp)).trans f4⟩
    · have l1 : ¬ (((n + 1 + z) % 64 : Nat) : Int) = 56 := by omega
      have hzl : z < zerosN n := by unfold zerosN at *; omega
      generalize (((n + 1 + z) % 64 : Nat) : Int) = q at w2' l1
      have A2 := At.alloc_new wr 5 #[Value.int .u8 0]
      have hsz := hF.size
      clear hl72
      go_wp2_with (first
        | (at_builtin; refine wpList_append_own _ rfl _ _ _ rfl w1.heap.size 5 iI (.int .u8 0) 1 1 Tryd.underlying28 hiI hz0 hz1 hz2 rfl (by decide) _ (1 + z) _ rfl (World.ownsRow.alloc h0 _) ⟨wr.heap.size, 0, none⟩ 1 1 (byteCells [0]) rfl rfl (by intro j u hj; rw [addr_add', Nat.zero_add]; exact (A2.cell j).trans hj) (byteCells_one _) (by simp [maxLen]; omega) (by omega) (by simp; omega) ?_; intro v2 w2 o2 gr2 _)
        | fail)
      refine ⟨⟨z + 1, by omega, ?_, ?_⟩, ?_⟩
      · rw [zerosB_succ, show 1 + (z + 1) = 1 + z + 1 by omega]
        simpa [byteCells] using o2
      · refine (hF.alloc (by omega) _).grown gr2 (by simp; omega) ?_
        intro x hx
        exact (h0.lt x hx).1
      · rcases ownsRow_forms o2 with ⟨rfl, h1⟩ | ⟨g, cap, rfl⟩
        · omega
        · simp only [sliceLen]; omega
end Go.Proofs.YtkagmoaapampgaaDoor
