/- Hex of the program and of the document. -/
import Derived.Test.YtichgiecohhmgaaDoorHexP
import Derived.Test.YtichgiecohhmgaaDoorRows
import Derived.Test.YtichgiecohhmgaaDoorUntil
namespace Go.Proofs.YtichgiecohhmgaaDoor
open Go.RowKit Go.Lib Base
set_option linter.unusedVariables false
set_option linter.unusedSimpArgs false

theorem all16 (x : UInt8) (h : x < 16) : x = 0 ∨ x = 1 ∨ x = 2 ∨ x = 3 ∨ x = 4 ∨ x = 5 ∨ x = 6 ∨ x = 7 ∨ x = 8 ∨ x = 9 ∨ x = 10 ∨ x = 11 ∨ x = 12 ∨ x = 13 ∨ x = 14 ∨ x = 15 :=
  all8 (fun x => x < 16 → x = 0 ∨ x = 1 ∨ x = 2 ∨ x = 3 ∨ x = 4 ∨ x = 5 ∨ x = 6 ∨ x = 7 ∨ x = 8 ∨ x = 9 ∨ x = 10 ∨ x = 11 ∨ x = 12 ∨ x = 13 ∨ x = 14 ∨ x = 15) (by decide +kernel) x h
theorem idxDig (x : UInt8) (h : x < 16) (w : World) : (Instr.index 9 (.string ⟨#[48, 49, 50, 51, 52, 53, 54, 55, 56, 57, 97, 98, 99, 100, 101, 102]⟩) (.int .u8 (bt x))).run Tryd.prog w = .ok (.int .u8 (bt (dg x))) w := by
  obtain rfl | rfl | rfl | rfl | rfl | rfl | rfl | rfl | rfl | rfl | rfl | rfl | rfl | rfl | rfl | rfl := all16 x h
  all_goals kernel_rfl
theorem shr4_lt (x : UInt8) : x >>> 4 < 16 := all8 (fun x => x >>> 4 < 16) (by decide +kernel) x
theorem and15_lt (x : UInt8) : x &&& 15 < 16 := all8 (fun x => x &&& 15 < 16) (by decide +kernel) x
section
variable (t : TypeId) (x : UInt8)
theorem bt_shr4 : bt x / 16 = bt (x >>> 4) := all8 (fun x => bt x / 16 = bt (x >>> 4)) (by decide +kernel) x
theorem bt_and15 : bt x % 16 = bt (x &&& 15) := all8 (fun x => bt x % 16 = bt (x &&& 15)) (by decide +kernel) x
@[go_sem high] theorem bt_shr : binOp .shr t (.int .u8 (bt x)) (.int .u64 4) = pure (.int .u8 (bt (x >>> 4))) := by
  rw [binOp_shr]
  have e : bt x / 2 ^ 4 = bt (x >>> 4) := bt_shr4 x
  have e2 : (bt x).fdiv (2 ^ min 4 IntKind.u8.bits) = bt x / 16 := Int.fdiv_eq_ediv_of_nonneg _ (by decide)
  rw [← e]
  simp [Op.shift]
  rw [e2]
@[go_sem high] theorem bt_and : binOp .and t (.int .u8 (bt x)) (.int .u8 15) = pure (.int .u8 (bt (x &&& 15))) := by
  have : bits .and .u8 (bt x) 15 = bt (x &&& 15) := by
    have h15 : (15 : Int) = bt 15 := rfl
    rw [h15]; unfold bt; rw [bits8_and _ _ x.toNat_lt (by decide), UInt8.toNat_and]
  rw [← this]; simp [binOp, intBits_and]
@[go_sem high] theorem bt_quo : binOp .quo t (.int .u8 (bt x)) (.int .u8 16) = pure (.int .u8 (bt (x >>> 4))) := by
  have h := bt_lt x
  have e : (bt x).tdiv 16 = bt (x >>> 4) := by rw [Int.tdiv_eq_ediv_of_nonneg h.1]; exact bt_shr4 x
  rw [← e]
  simp [binOp, Op.intDiv]
  rw [e, u8_btb]
@[go_sem high] theorem bt_rem : binOp .rem t (.int .u8 (bt x)) (.int .u8 16) = pure (.int .u8 (bt (x &&& 15))) := by
  have h := bt_lt x
  have e : (bt x).tmod 16 = bt (x &&& 15) := by rw [Int.tmod_eq_emod_of_nonneg h.1]; exact bt_and15 x
  rw [← e]
  simp [binOp, Op.intDiv]
theorem nat_bt : (x.toNat : Int) = bt x := rfl
end
attribute [go_sem high] nat_bt

/-- make([]byte, 0, n). -/
theorem run_mk0 {P : Program} {t e : TypeId} (ht : P.underlying t = some (.slice e)) (hi : (P.info? e).map (fun i => (i.zero, i.size, i.bytes)) = some (some (.int .u8 0), 1, 1)) (n : Nat) (hn : n ≤ 281474976710656) (w : World) :
    (Instr.makeSlice t (.int .i64 0) (.int .i64 n)).run P w = .ok (.slice (some ⟨w.heap.size, 0, none⟩) 0 n) (w.alloc (.cells (byteCells (zerosB n)).toArray e)) := by
  obtain ⟨i, hi, hz0, hz1, hz2⟩ := info_parts hi
  have := run_make w t e i (.int .u8 0) ht hi hz0 .i64 .i64 0 n (by omega) (by omega) (by rw [hz2]; omega) (by omega)
  rw [hz1] at this
  have e2 : madeCells (Value.int IntKind.u8 0).cells (n * 1) = (byteCells (zerosB n)).toArray := by
    apply Array.ext
    · simp [madeCells, zerosB, byteCells]
    · intro k h1 h2; simp [madeCells, Value.cells, Nat.mod_one, zerosB, byteCells]
  rw [Int.toNat_natCast, e2] at this
  exact this

set_option maxRecDepth 100000 in
set_option maxHeartbeats 1000000 in
theorem hex_any (d : ByteArray) (hd : d.size ≤ 4194304) (w : World) :
    Calls Tryd.prog 24 #[.string d] w fun e w' => e = .returned (.string ⟨(hexL d.data.toList).toArray⟩) ∧ Fr [] w w' := by
  have hi5 : (Tryd.prog.info? 5).map (fun i => (i.zero, i.size, i.bytes)) = some (some (.int .u8 0), 1, 1) := by kernel_rfl
  have hmk := run_mk0 (P := Tryd.prog) Tryd.underlying35 hi5 (2 * d.size) (by omega)
  have hmk2 : ∀ w, (Instr.makeSlice 35 (.int .i64 0) (.int .i64 (2 * (d.size : Int)))).run Tryd.prog w = _ := fun w => by have := hmk w; simpa using this
  clear hmk
  have aw : IntKind.i64.wrap (2 * (d.size : Int)) = 2 * (d.size : Int) := IntWalk.i64_in _ (by omega)
  obtain ⟨iI, hiI, hz0, hz1, hz2⟩ := info_parts hi5
  have o0 : (w.alloc (.cells (byteCells (zerosB (2 * d.size))).toArray 5)).ownsRow w.heap.size 5 1 (.slice (some ⟨w.heap.size, 0, none⟩) 0 (2 * d.size)) 0 (byteCells (hexL [])) :=
    ⟨rfl, .inr ⟨w.heap.size, 2 * d.size, (byteCells (zerosB (2 * d.size))).toArray, rfl, Nat.le_refl _, heap_alloc_new w _, by omega, by simp [maxLen]; omega, by simp [byteCells_length, zerosB], by simp [hexL, byteCells]⟩⟩
  obtain ⟨D, hD⟩ : ∃ D, D = d.data.toList := ⟨_, rfl⟩
  have hDl : D.length = d.size := by rw [hD]; simp
  rw [← hD]
  have HD := Lib.hid hD
  clear hD
  go_enter Tryd.func24, Tryd.ntmps24
  go_wp2_with fail
  go_loopw [3, 4] (fun v3 v4 wr => ∃ i : Nat, i ≤ d.size ∧ v4 = .int .i64 i ∧ wr.ownsRow w.heap.size 5 1 v3 (2 * i) (byteCells (hexL (D.take i))) ∧ Fr [] w wr) (fun _ v _ => d.size - (intOf v).toNat)
  case atStart => exact ⟨0, by omega, rfl, o0, Fr.alloc _ _ _⟩
  case round =>
    clear o0
    obtain ⟨i, hi, rfl, h0, hF⟩ := hrel
    by_cases hl : i < d.size
    · have l1 : (i : Int) < d.size := by omega
      obtain ⟨x, hx⟩ : ∃ x, x = D.getD i 0 := ⟨_, rfl⟩
      have gx : d[i] = x := bget _ (by rw [hx, ← HD.out]; simp [List.getD, show i < D.length by omega])
      have ht : D.take (i + 1) = D.take i ++ [x] := by
        rw [List.take_add_one, List.getElem?_eq_getElem (by omega), hx]; simp [List.getD, show i < D.length by omega]
      have HT := Lib.hid ht
      clear hx ht
      have i1 := idxDig (x >>> 4) (shr4_lt x)
      have i2 := idxDig (x &&& 15) (and15_lt x)
      have A2 := At.alloc_new wr.drew 5 #[Value.int .u8 (bt (dg (x >>> 4))), Value.int .u8 (bt (dg (x &&& 15)))]
      go_wp2_with fail
      refine wp_region_until (fun _ => True) (fun _ => True) 1000 (by rfl) ?_
      have hT : True := trivial
      refine until_t0 0 (v := ?_) rfl (by kernel_rfl) (fun _ _ _ h => h) (Or.inl ⟨by rfl, ?_⟩) (by assumption) (fun h => by first | assumption | exact absurd (h : true = false) (by decide)) ?_
      rotate_left
      · intro w hSw; (try dsimp only at hSw); (try go_simp); (try with_reducible rfl)
      try simp only [Act.put, List.setIfInBounds_toArray, List.set_cons_zero, List.set_cons_succ]
      refine until_t0 1 (v := ?_) rfl (by kernel_rfl) (fun _ _ _ h => h) (Or.inl ⟨by rfl, ?_⟩) (by assumption) (fun h => by first | assumption | exact absurd (h : true = false) (by decide)) ?_
      rotate_left
      · intro w hSw; (try dsimp only at hSw); (try go_simp); (try with_reducible rfl)
      try simp only [Act.put, List.setIfInBounds_toArray, List.set_cons_zero, List.set_cons_succ]
      refine until_t0 2 (v := ?_) rfl (by kernel_rfl) (fun _ _ _ h => h) (Or.inl ⟨by rfl, ?_⟩) (by assumption) (fun h => by first | assumption | exact absurd (h : true = false) (by decide)) ?_
      rotate_left
      · intro w hSw; (try dsimp only at hSw); (try go_simp); (try with_reducible rfl)
      try simp only [Act.put, List.setIfInBounds_toArray, List.set_cons_zero, List.set_cons_succ]
      refine until_t0 3 (v := ?_) rfl (by kernel_rfl) (fun _ _ _ h => h) (Or.inl ⟨by rfl, ?_⟩) (by assumption) (fun h => by first | assumption | exact absurd (h : true = false) (by decide)) ?_
      rotate_left
      · intro w hSw; (try dsimp only at hSw); (try go_simp); (try with_reducible rfl)
      try simp only [Act.put, List.setIfInBounds_toArray, List.set_cons_zero, List.set_cons_succ]
      refine until_t0 4 (v := ?_) rfl (by kernel_rfl) (fun _ _ _ h => h) (Or.inl ⟨by rfl, ?_⟩) (by assumption) (fun h => by first | assumption | exact absurd (h : true = false) (by decide)) ?_
      rotate_left
      · intro w hSw; (try dsimp only at hSw); (try go_simp); (try with_reducible rfl)
      try simp only [Act.put, List.setIfInBounds_toArray, List.set_cons_zero, List.set_cons_succ]
      refine until_t0 5 (v := ?_) rfl (by kernel_rfl) (fun _ _ _ h => h) (Or.inl ⟨by rfl, ?_⟩) (by assumption) (fun h => by first | assumption | exact absurd (h : true = false) (by decide)) ?_
      rotate_left
      · intro w hSw; (try dsimp only at hSw); (try go_simp); (try with_reducible rfl)
      try simp only [Act.put, List.setIfInBounds_toArray, List.set_cons_zero, List.set_cons_succ]
      refine until_t0 6 (v := ?_) rfl (by kernel_rfl) (fun _ _ _ h => h) (Or.inl ⟨by rfl, ?_⟩) (by assumption) (fun h => by first | assumption | exact absurd (h : true = false) (by decide)) ?_
      rotate_left
      · intro w hSw; (try dsimp only at hSw); (try go_simp); (try with_reducible rfl)
      try simp only [Act.put, List.setIfInBounds_toArray, List.set_cons_zero, List.set_cons_succ]
      refine until_t0 7 (v := ?_) rfl (by kernel_rfl) (fun _ _ _ h => h) (Or.inl ⟨by rfl, ?_⟩) (by assumption) (fun h => by first | assumption | exact absurd (h : true = false) (by decide)) ?_
      rotate_left
      · intro w hSw; (try dsimp only at hSw); (try go_simp); (try with_reducible rfl)
      try simp only [Act.put, List.setIfInBounds_toArray, List.set_cons_zero, List.set_cons_succ]
      refine until_t0 8 (v := ?_) rfl (by kernel_rfl) (fun _ _ _ h => h) (Or.inl ⟨by rfl, ?_⟩) (by assumption) (fun h => by first | assumption | exact absurd (h : true = false) (by decide)) ?_
      rotate_left
      · intro w hSw; (try dsimp only at hSw); (try go_simp); (try with_reducible rfl)
      try simp only [Act.put, List.setIfInBounds_toArray, List.set_cons_zero, List.set_cons_succ]
      refine until_t0 9 (v := ?_) rfl (by kernel_rfl) (fun _ _ _ h => h) (Or.inl ⟨by rfl, ?_⟩) (by assumption) (fun h => by first | assumption | exact absurd (h : true = false) (by decide)) ?_
      rotate_left
      · intro w hSw; (try dsimp only at hSw); (try go_simp); (try with_reducible rfl)
      try simp only [Act.put, List.setIfInBounds_toArray, List.set_cons_zero, List.set_cons_succ]
      refine until_t0 10 (v := ?_) rfl (by kernel_rfl) (fun _ _ _ h => h) (Or.inl ⟨by rfl, ?_⟩) (by assumption) (fun h => by first | assumption | exact absurd (h : true = false) (by decide)) ?_
      rotate_left
      · intro w hSw; (try dsimp only at hSw); (try go_simp); (try with_reducible rfl)
      try simp only [Act.put, List.setIfInBounds_toArray, List.set_cons_zero, List.set_cons_succ]
      refine until_only (i := 11) rfl (by kernel_rfl) (by rfl) ?_
      intro K' hK
      go_simp
      refine hK _ _ trivial (fun _ => trivial) ?_
      clear hK
      refine until_only (i := 12) rfl (by kernel_rfl) (by rfl) ?_
      intro K' hK
      refine wp_append_own _ _ _ _ rfl w.heap.size 5 iI (.int .u8 0) 1 1 Tryd.underlying35 hiI hz0 hz1 hz2 rfl (by decide) _ (2 * i) _ rfl (World.ownsRow.alloc (World.ownsRow.drew h0) _) ⟨wr.heap.size, 0, none⟩ 2 2 (byteCells [dg (x >>> 4), dg (x &&& 15)]) rfl rfl ?_ ?_ ?_ ?_ ?_ ?_
      case refine_1 => intro j u hj; rw [addr_add', Nat.zero_add]; exact (A2.cell j).trans hj
      case refine_2 => exact byteCells_one _
      case refine_3 => simp [maxLen]; omega
      case refine_4 => omega
      case refine_5 => have := hF.size; simp; omega
      intro v' w' hown hgr _
      refine hK _ _ trivial (fun _ => trivial) ?_
      clear hK
      refine until_only (i := 13) rfl (by kernel_rfl) (by rfl) ?_
      intro K' hK
      go_simp
      refine hK _ _ trivial (fun _ => trivial) ?_
      clear hK
      refine until_done (by kernel_rfl) ?_ _
      go_wp2_with fail
      refine ⟨⟨i + 1, by omega, by simp, ?_, ?_⟩, by simp only [intOf]; omega⟩
      · rw [HT.out]
        have e : hexL (D.take i ++ [x]) = hexL (D.take i) ++ [dg (x >>> 4), dg (x &&& 15)] := by simp [hexL, List.flatMap_append]
        rw [e, show 2 * (i + 1) = 2 * i + 2 by omega]
        simpa [byteCells] using hown
      · refine hF.new (S := u3.ownBlock.toList) (((Fr.drew _ _).trans (Fr.alloc _ _ _)).trans (Fr.ofGrown hgr (by intro k hk; rw [show u3.ownBlock = some k from hk]; simp))) (fun x hx => (h0.lt x (by simpa using hx)).1)
    · obtain rfl : i = d.size := by omega
      rw [List.take_of_length_le (by omega)] at h0
      have hcv := run_strOwn Tryd.underlying35 Tryd.underlying5 Tryd.underlying9 h0
      go_wp2_with fail
      go_ret
      exact ⟨rfl, hF⟩
end Go.Proofs.YtichgiecohhmgaaDoor
