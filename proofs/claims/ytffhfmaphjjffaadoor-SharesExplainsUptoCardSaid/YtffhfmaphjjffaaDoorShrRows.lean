/- A text cut into rows, by the program; a share's text. -/
import Derived.Test.YtffhfmaphjjffaaDoorShrRow
import Derived.Test.YtffhfmaphjjffaaDoorShaSums
import Derived.Test.YtffhfmaphjjffaaDoorUntil
namespace Go.Proofs.YtffhfmaphjjffaaDoor
open Go.RowKit Go.Lib Base Gf
set_option linter.unusedVariables false
set_option linter.unusedSimpArgs false


theorem Texts.ofAt {w : World} {g : Nat} {T : TypeId} {ps : List ByteArray} (h : At w g T (ps.map Value.string)) : Texts w (some ⟨g, 0, none⟩) ps := by
  intro j s hj
  refine ⟨g, 0, rfl, ?_⟩
  rw [Nat.zero_add, h.cell, List.getElem?_map, hj]; rfl
theorem sum_one (s : ByteArray) (hs : s.size ≤ 1152921504606846976) (w : World) (g : Nat) (hI : First w) (hR : Roots w) (h : At w g 9 [.string s]) :
    Calls Tryd.prog 29 #[.slice (some ⟨g, 0, none⟩) 1 1] w fun e w' => e = .returned (.string ⟨(shaL s.data.toList).toArray⟩) ∧ Fr [] w w' := by
  have hj : joinL [s] = s.data.toList := by simp [joinL]
  have := sum_any [s] (some ⟨g, 0, none⟩) 1 (by rw [hj]; simp; omega) (by simp) w hI hR (Texts.ofAt h)
  rw [hj] at this
  exact this

theorem str_take (l : List UInt8) (n : Nat) : (⟨l.toArray⟩ : ByteArray).extract 0 n = ⟨(l.take n).toArray⟩ := by
  apply ByteArray.ext
  rw [ByteArray.data_extract]
  apply Array.toList_inj.1
  rw [Array.toList_extract, List.extract_eq_take_drop]
  simp
theorem At.alloc_new2 (w : World) (o : Obj) (T : TypeId) (cs : Array Value) : At ((w.alloc o).alloc (.cells cs T)) (w.heap.size + 1) T cs.toList := by
  have := At.alloc_new (w.alloc o) T cs
  simpa using this
theorem mk_rows (n : Nat) (hn : n ≤ 4294967296) (w : World) :
    (Instr.makeSlice 60 (.int .i64 n) (.int .i64 n)).run Tryd.prog w = .ok (.slice (some ⟨w.heap.size, 0, none⟩) n n) (w.alloc (.cells (byteCells (zerosB (32 * n))).toArray 63)) := by
  have hi : (Tryd.prog.info? 63).map (fun i => (i.zero, i.size, i.bytes)) = some (some (.agg (List.replicate 32 (Value.int .u8 0)).toArray), 32, 32) := by kernel_rfl
  obtain ⟨i, hi, hz0, hz1, hz2⟩ := info_parts hi
  have := run_make (P := Tryd.prog) w 60 63 i _ Tryd.underlying60 hi hz0 .i64 .i64 n n (by omega) (by omega) (by rw [hz2]; omega) (by omega)
  rw [hz1] at this
  have e2 : madeCells (Value.agg (List.replicate 32 (Value.int .u8 0)).toArray).cells (n * 32) = (byteCells (zerosB (32 * n))).toArray := by
    have key : ∀ L : List Value, L.length = 32 → (∀ i, i < 32 → L[i]? = some (Value.int IntKind.u8 0)) → madeCells L.toArray (n * 32) = (byteCells (zerosB (32 * n))).toArray := by
      intro L hl hL
      apply Array.ext
      · simp [madeCells, zerosB, byteCells, Nat.mul_comm]
      · intro k h1 h2
        have := hL (k % 32) (Nat.mod_lt _ (by omega))
        simp [madeCells, zerosB, byteCells, hl, this]
    exact key _ rfl (fun i h => by rw [List.getElem?_replicate, if_pos h])
  rw [Int.toNat_natCast, e2] at this
  exact this
set_option maxRecDepth 100000 in
set_option maxHeartbeats 4000000 in
theorem rows_any (s : ByteArray) (n : Nat) (hs : s.size = 32 * n) (hn : n ≤ 16) (w : World) :
    Calls Tryd.prog 30 #[.string s] w fun e w' => ∃ g, e = .returned (.slice (some ⟨g, 0, none⟩) n n) ∧ w.heap.size ≤ g ∧ At w' g 63 (byteCells s.data.toList) ∧ Fr [] w w' := by
  have l0 : (s.size : Int) / 32 = n := by omega
  have hS := Lib.hid hs
  have hk := mk_rows n (by omega)
  have hA := At.alloc_new w 63 (byteCells (zerosB (32 * n))).toArray
  rw [List.toList_toArray] at hA
  have hF := Fr.alloc [] w (.cells (byteCells (zerosB (32 * n))).toArray 63)
  obtain ⟨p, hp⟩ : ∃ p, p = w.heap.size := ⟨_, rfl⟩
  rw [← hp] at hA
  have hk2 := hk w
  rw [← hp] at hk2
  have HP := Lib.hid hp
  obtain ⟨D, hD⟩ : ∃ D, D = s.data.toList := ⟨_, rfl⟩
  have hDl : D.length = 32 * n := by rw [hD]; simpa using hs
  have HD := Lib.hid (And.intro hD hDl)
  rw [← hD]
  clear hs hp hk hD hDl
  go_enter Tryd.func30, Tryd.ntmps30
  go_wp2_with fail
  generalize w.alloc (.cells (byteCells (zerosB (32 * n))).toArray 63) = w1 at hA hF ⊢
  clear hk2
  go_loopw [4, 11] (fun _ v wr => ∃ m : Nat, m ≤ n ∧ v = .int .i64 m ∧ At wr p 63 (byteCells (D.take (32 * m) ++ zerosB (32 * (n - m)))) ∧ Fr [] w wr) (fun _ v _ => n - (intOf v).toNat)
  case atStart => exact ⟨0, by omega, rfl, by simpa using hA, hF⟩
  case round =>
    clear hA hF
    obtain ⟨m, hm, rfl, hA, hF⟩ := hrel
    by_cases hl : m < n
    · have l1 : (m : Int) < n := by omega
      obtain ⟨hD, hDl⟩ := HD.out
      have hs := hS.out
      have w1 : IntKind.i64.wrap ((m : Int) * 32) = (m : Int) * 32 := IntWalk.i64_in _ (by omega)
      have l2 : (m : Int) * 32 ≤ s.size := by omega
      have l3 : (0 : Int) ≤ (m : Int) * 32 := by omega
      have l4 : m * 32 ≤ s.size := by omega
      have hlA : (D.take (32 * m)).length = m * 32 := by simp; omega
      have hxd : (s.extract (m * 32) s.size).data.toList = D.drop (m * 32) := by rw [extract_rest s _ _ rfl, hD]
      have hxl : 32 ≤ (s.extract (m * 32) s.size).size := by
        have : (s.extract (m * 32) s.size).data.toList.length = (s.extract (m * 32) s.size).size := by simp
        rw [hxd, List.length_drop] at this; omega
      have hnew : (byteCells (D.take (32 * m) ++ zerosB (32 * (n - m)))).take (m * 32) ++ byteCells ((D.drop (m * 32)).take 32) ++ (byteCells (D.take (32 * m) ++ zerosB (32 * (n - m)))).drop (m * 32 + 32) = byteCells (D.take (32 * (m + 1)) ++ zerosB (32 * (n - (m + 1)))) := by
        have ez : zerosB (32 * (n - m)) = zerosB 32 ++ zerosB (32 * (n - (m + 1))) := by
          unfold zerosB; rw [List.replicate_append_replicate]; congr 1; omega
        have hb : ∀ a b : List UInt8, byteCells (a ++ b) = byteCells a ++ byteCells b := fun a b => by simp [byteCells]
        have hlB : (byteCells (D.take (32 * m))).length = m * 32 := by rw [byteCells_length, hlA]
        have e1 : (byteCells (D.take (32 * m) ++ zerosB (32 * (n - m)))).take (m * 32) = byteCells (D.take (32 * m)) := by rw [hb, ← hlB, List.take_left]
        have e2 : (byteCells (D.take (32 * m) ++ zerosB (32 * (n - m)))).drop (m * 32 + 32) = byteCells (zerosB (32 * (n - (m + 1)))) := by
          rw [ez, hb, hb, ← List.append_assoc]
          have : (byteCells (D.take (32 * m)) ++ byteCells (zerosB 32)).length = m * 32 + 32 := by rw [List.length_append, hlB, byteCells_length]; rfl
          rw [← this, List.drop_left]
        rw [e1, e2, hb, show 32 * (m + 1) = 32 * m + 32 by omega, List.take_add, hb, show m * 32 = 32 * m by omega]
      have hcp : ∀ ty, (Builtin.copy_ #[55, 9] ty #[.slice (some ⟨p, m * 32, none⟩) 32 32, .string (s.extract (m * 32) s.size)]).run Tryd.prog wr.drew = .ok (goInt 32) (wr.drew.setRow p (byteCells (D.take (32 * (m + 1)) ++ zerosB (32 * (n - (m + 1))))).toArray) := fun ty => by
        have := run_copy_cut (P := Tryd.prog) wr.drew 55 9 ty 5 p (m * 32) 32 32 (s.extract (m * 32) s.size) _ _ Tryd.underlying55 (by kernel_rfl) hA.drew.out 32 (by omega) (by simp [byteCells_length, hlA, zerosB]; omega)
        rw [hxd, List.toList_toArray, hnew] at this
        exact this
      have HN := Lib.hid hnew
      clear hD hDl hs hlA hxd hxl hnew
      go_wp2_with fail
      go_region
      go_wp2_with fail
      refine ⟨⟨m + 1, by omega, by simp, ?_, ?_⟩, by simp only [intOf]; omega⟩
      · have := (hA.drew.setRow (byteCells (D.take (32 * (m + 1)) ++ zerosB (32 * (n - (m + 1))))).toArray)
        rwa [List.toList_toArray] at this
      · exact hF.new (S := [p]) ((Fr.drew _ _).trans (Fr.setRow _ _ _ _ (.inl (by simp)))) (by simp; exact Nat.le_of_eq HP.out.symm)
    · obtain rfl : m = n := by omega
      have hDl := HD.out.2
      rw [List.take_of_length_le (by omega), Nat.sub_self, Nat.mul_zero] at hA
      have e : D ++ zerosB 0 = D := List.append_nil D
      rw [e] at hA
      have HA := Lib.hid hA
      clear hDl
      go_wp2_with fail
      go_ret
      exact ⟨p, rfl, Nat.le_of_eq HP.out.symm, hA, hF⟩

set_option maxRecDepth 100000 in
set_option maxHeartbeats 4000000 in
theorem text_any (x k : UInt8) (kk : Int) (id : ByteArray) (V : List UInt8) (hid : id.size = 8) (hV : V.length = 32) (hk : IntKind.u8.wrap kk = bt k) (w : World) (hI : First w) (hR : Roots w) :
    Calls Tryd.prog 32 #[.agg (#[.int .u8 (bt x)] ++ (byteCells V).toArray), .agg #[.int .i64 kk, .string id]] w fun e w' => e = .returned (.string ⟨(textS x k id.data.toList V).toArray⟩) ∧ Fr [] w w' := by
  have hsl := textS_len x k id.data.toList V (by simpa using hid) hV
  have hAb : bodyS x k id.data.toList V = [83, x, k] ++ id.data.toList ++ V := by simp [bodyS]
  have hB43 := bodyS_len x k id.data.toList V (by simpa using hid) hV
  obtain ⟨h3, hh3⟩ : ∃ h3 : ByteArray, h3 = ⟨#[83, x, k]⟩ := ⟨_, rfl⟩
  have hh3s : h3.size = 3 := by rw [hh3]; rfl
  obtain ⟨vs, hvs⟩ : ∃ vs : ByteArray, vs = ⟨V.toArray⟩ := ⟨_, rfl⟩
  have hvss : vs.size = 32 := by rw [hvs]; show V.toArray.size = 32; simpa using hV
  obtain ⟨B, hB⟩ : ∃ B : ByteArray, B = h3 ++ id ++ vs := ⟨_, rfl⟩
  have hBd : B.data.toList = bodyS x k id.data.toList V := by
    rw [hB, ByteArray.data_append, ByteArray.data_append, Array.toList_append, Array.toList_append, hAb, hh3, hvs]
  have hBs : B.size = 43 := by rw [hB, ByteArray.size_append, ByteArray.size_append, hh3s, hvss, hid]
  have cS := fun w g h1 h2 h3 => sum_one B (by omega) w g h1 h2 h3
  rw [hBd] at cS
  obtain ⟨S, hS⟩ : ∃ S : ByteArray, S = ⟨(shaL (bodyS x k id.data.toList V)).toArray⟩ := ⟨_, rfl⟩
  have hSs : S.size = 32 := by rw [hS]; show (shaL _).toArray.size = 32; rw [List.size_toArray, shaL_len]
  have hS8 : S.extract 0 8 = ⟨((shaL (bodyS x k id.data.toList V)).take 8).toArray⟩ := by rw [hS, str_take]
  obtain ⟨E, hE⟩ : ∃ E : ByteArray, E = ⟨((shaL (bodyS x k id.data.toList V)).take 8).toArray⟩ := ⟨_, rfl⟩
  have hEs : E.size = 8 := by rw [hE]; show ((shaL _).take 8).toArray.size = 8; simp [shaL_len]
  rw [← hE] at hS8
  rw [← hS] at cS
  have hres : (⟨(textS x k id.data.toList V).toArray⟩ : ByteArray) = B ++ E := by
    apply ByteArray.ext
    apply Array.toList_inj.1
    rw [ByteArray.data_append, Array.toList_append, hBd, hE]; rfl
  rw [hres]
  have hcv : ∀ w' g, At w' g 5 [.int .u8 83, .int .u8 (bt x), .int .u8 (bt k)] → (convert 55 9 (.slice (some ⟨g, 0, none⟩) 3 3)).run Tryd.prog w' = .ok (.string h3) w' := fun w' g h => by
    rw [hh3]; exact run_strB (P := Tryd.prog) (d := 9) Tryd.underlying55 Tryd.underlying5 Tryd.underlying9 w' g 0 3 5 [83, x, k] [] [] h rfl 3 rfl
  have hcw : ∀ w' g, At w' g 66 (.int .u8 (bt x) :: byteCells V) → (convert 55 9 (.slice (some ⟨g, 1, none⟩) 32 32)).run Tryd.prog w' = .ok (.string vs) w' := fun w' g h => by
    rw [hvs]; exact run_strB (P := Tryd.prog) (d := 9) Tryd.underlying55 Tryd.underlying5 Tryd.underlying9 w' g 1 32 66 V [.int .u8 (bt x)] [] (by simpa using h) rfl 32 hV.symm
  have hbV : (byteCells V).toArray.size = 32 := by simp [byteCells_length, hV]
  have HB := Lib.hid (And.intro hB hBs)
  have HV := Lib.hid hV
  have k1 : ¬ 9223372036854775807 < h3.size + id.size := by omega
  have k2 : ¬ 9223372036854775807 < h3.size + id.size + vs.size := by omega
  have k3 : ¬ 9223372036854775807 < B.size + E.size := by omega
  have A0 := (At.alloc_new w 66 (#[.int .u8 (bt x)] ++ (byteCells V).toArray)).alloc (.cells #[.int .i64 kk, .string id] 69)
  have A1 := At.alloc_new (w.alloc (.cells (#[.int .u8 (bt x)] ++ (byteCells V).toArray) 66)) 69 #[.int .i64 kk, .string id]
  have hF : Fr [] w ((w.alloc (.cells (#[.int .u8 (bt x)] ++ (byteCells V).toArray) 66)).alloc (.cells #[.int .i64 kk, .string id] 69)) := (Fr.alloc _ _ _).trans (Fr.alloc _ _ _)
  clear hsl hAb hB43 hh3 hvs hBd hS hE hres hV hB hEs
  go_enter Tryd.func32, Tryd.ntmps32
  go_wp2_with fail
  obtain ⟨p, hp⟩ : ∃ p, p = w.heap.size := ⟨_, rfl⟩
  obtain ⟨W, hW⟩ : ∃ W, W = (w.alloc (.cells (Value.int .u8 (bt x) :: byteCells V).toArray 66)).alloc (.cells #[.int .i64 kk, .string id] 69) := ⟨_, rfl⟩
  have eW : (w.alloc (.cells (#[.int .u8 (bt x)] ++ (byteCells V).toArray) 66)).alloc (.cells #[.int .i64 kk, .string id] 69) = W := by rw [hW]; simp
  rw [eW] at A0 A1 hF
  rw [← hW]
  have eA : (#[Value.int .u8 (bt x)] ++ (byteCells V).toArray).toList = Value.int .u8 (bt x) :: byteCells V := by simp
  rw [eA] at A0
  have es : (w.alloc (.cells (#[.int .u8 (bt x)] ++ (byteCells V).toArray) 66)).heap.size = w.heap.size + 1 := by simp
  rw [es] at A1
  rw [← hp] at A0 A1 ⊢
  have hsW := A1.lt
  have HP := Lib.hid hp
  clear hp hW eW eA es
  have mkS : ∀ w', At w' p 66 (Value.int .u8 (bt x) :: byteCells V) → At w' (p + 1) 69 [.int .i64 kk, .string id] → At w' p 66 (Value.int .u8 (bt x) :: byteCells V) ∧ At w' (p + 1) 69 [.int .i64 kk, .string id] ∧ w'.cell? ⟨p, 0, none⟩ = some (.int .u8 (bt x)) ∧ w'.cell? ⟨p + 1, 0, none⟩ = some (.int .i64 kk) ∧ w'.cell? ⟨p + 1, 1, none⟩ = some (.string id) ∧ (convert 55 9 (.slice (some ⟨p, 1, none⟩) 32 32)).run Tryd.prog w' = .ok (.string vs) w' := fun w' h1 h2 =>
    ⟨h1, h2, h1.cell 0, h2.cell 0, h2.cell 1, hcw w' p h1⟩
  refine wp_region_until (fun w' => At w' p 66 (Value.int .u8 (bt x) :: byteCells V) ∧ At w' (p + 1) 69 [.int .i64 kk, .string id] ∧ w'.cell? ⟨p, 0, none⟩ = some (.int .u8 (bt x)) ∧ w'.cell? ⟨p + 1, 0, none⟩ = some (.int .i64 kk) ∧ w'.cell? ⟨p + 1, 1, none⟩ = some (.string id) ∧ (convert 55 9 (.slice (some ⟨p, 1, none⟩) 32 32)).run Tryd.prog w' = .ok (.string vs) w') (fun _ => True) 1000 (by rfl) ?_
  have hT : True := trivial
  have s0 := mkS _ A0.drew A1.drew
  clear hcw
  refine until_s0 0 (v := ?_) rfl (by kernel_rfl) (fun _ _ _ h => h) (Or.inl ⟨by rfl, ?_⟩) (by assumption) (fun h => by first | assumption | exact absurd (h : true = false) (by decide)) ?_
  rotate_left
  · intro w hSw; (try dsimp only at hSw); (try go_simp); (try with_reducible rfl)
  try simp only [Act.put, List.setIfInBounds_toArray, List.set_cons_zero, List.set_cons_succ]
  refine until_s0 1 (v := ?_) rfl (by kernel_rfl) (fun _ _ _ h => h) (Or.inl ⟨by rfl, ?_⟩) (by assumption) (fun h => by first | assumption | exact absurd (h : true = false) (by decide)) ?_
  rotate_left
  · intro w hSw; (try dsimp only at hSw); (try go_simp); (try with_reducible rfl)
  try simp only [Act.put, List.setIfInBounds_toArray, List.set_cons_zero, List.set_cons_succ]
  refine until_s0 2 (v := ?_) rfl (by kernel_rfl) (fun _ _ _ h => h) (Or.inl ⟨by rfl, ?_⟩) (by assumption) (fun h => by first | assumption | exact absurd (h : true = false) (by decide)) ?_
  rotate_left
  · intro w hSw; (try dsimp only at hSw); (try go_simp); (try with_reducible rfl)
  try simp only [Act.put, List.setIfInBounds_toArray, List.set_cons_zero, List.set_cons_succ]
  refine until_s0 3 (v := ?_) rfl (by kernel_rfl) (fun _ _ _ h => h) (Or.inl ⟨by rfl, ?_⟩) (by assumption) (fun h => by first | assumption | exact absurd (h : true = false) (by decide)) ?_
  rotate_left
  · intro w hSw; (try dsimp only at hSw); (try go_simp); (try with_reducible rfl)
  try simp only [Act.put, List.setIfInBounds_toArray, List.set_cons_zero, List.set_cons_succ]
  refine until_s0 4 (v := ?_) rfl (by kernel_rfl) (fun _ _ _ h => h) (Or.inl ⟨by rfl, ?_⟩) (by assumption) (fun h => by first | assumption | exact absurd (h : true = false) (by decide)) ?_
  rotate_left
  · intro w hSw; (try dsimp only at hSw); (try go_simp); (try with_reducible rfl)
  try simp only [Act.put, List.setIfInBounds_toArray, List.set_cons_zero, List.set_cons_succ]
  refine until_s0 7 (v := ?_) rfl (by kernel_rfl) (fun _ _ _ h => h) (Or.inl ⟨by rfl, ?_⟩) (by assumption) (fun h => by first | assumption | exact absurd (h : true = false) (by decide)) ?_
  rotate_left
  · intro w hSw; (try dsimp only at hSw); (try go_simp); (try with_reducible rfl)
  try simp only [Act.put, List.setIfInBounds_toArray, List.set_cons_zero, List.set_cons_succ]
  refine until_s0 8 (v := ?_) rfl (by kernel_rfl) (fun _ _ _ h => h) (Or.inl ⟨by rfl, ?_⟩) (by assumption) (fun h => by first | assumption | exact absurd (h : true = false) (by decide)) ?_
  rotate_left
  · intro w hSw; (try dsimp only at hSw); (try go_simp); (try with_reducible rfl)
  try simp only [Act.put, List.setIfInBounds_toArray, List.set_cons_zero, List.set_cons_succ]
  refine until_s0 10 (v := ?_) rfl (by kernel_rfl) (fun _ _ _ h => h) (Or.inl ⟨by rfl, ?_⟩) (by assumption) (fun h => by first | assumption | exact absurd (h : true = false) (by decide)) ?_
  rotate_left
  · intro w hSw; (try dsimp only at hSw); (try go_simp); (try with_reducible rfl)
  try simp only [Act.put, List.setIfInBounds_toArray, List.set_cons_zero, List.set_cons_succ]
  refine until_s0 11 (v := ?_) rfl (by kernel_rfl) (fun _ _ _ h => h) (Or.inl ⟨by rfl, ?_⟩) (by assumption) (fun h => by first | assumption | exact absurd (h : true = false) (by decide)) ?_
  rotate_left
  · intro w hSw; (try dsimp only at hSw); (try go_simp); (try with_reducible rfl)
  try simp only [Act.put, List.setIfInBounds_toArray, List.set_cons_zero, List.set_cons_succ]
  refine until_s0 12 (v := ?_) rfl (by kernel_rfl) (fun _ _ _ h => h) (Or.inl ⟨by rfl, ?_⟩) (by assumption) (fun h => by first | assumption | exact absurd (h : true = false) (by decide)) ?_
  rotate_left
  · intro w hSw; (try dsimp only at hSw); (try go_simp); (try with_reducible rfl)
  try simp only [Act.put, List.setIfInBounds_toArray, List.set_cons_zero, List.set_cons_succ]
  refine until_sole 5 rfl (by kernel_rfl) (by rfl) ?_
  intro K' hK
  go_simp
  have A3 := (At.alloc_new W 5 #[Value.int .u8 83, .int .u8 (bt x), .int .u8 (bt k)]).drew
  have s1 := mkS _ (A0.alloc (.cells #[Value.int .u8 83, .int .u8 (bt x), .int .u8 (bt k)] 5)).drew (A1.alloc (.cells #[Value.int .u8 83, .int .u8 (bt x), .int .u8 (bt k)] 5)).drew
  have hF3 : Fr [] w (W.alloc (.cells #[Value.int .u8 83, .int .u8 (bt x), .int .u8 (bt k)] 5)).drew := (hF.trans (Fr.alloc _ _ _)).trans (Fr.drew _ _)
  refine hK _ _ s1 (fun _ => trivial) ?_
  clear hK s0
  skip
  refine until_sole 6 rfl (by kernel_rfl) (by rfl) ?_
  intro K' hK
  have hcv1 := hcv _ _ A3
  go_simp
  refine hK _ _ s1 (fun _ => trivial) ?_
  clear hK hcv1
  refine until_s0 9 (v := ?_) rfl (by kernel_rfl) (fun _ _ _ h => h) (Or.inl ⟨by rfl, ?_⟩) (by assumption) (fun h => by first | assumption | exact absurd (h : true = false) (by decide)) ?_
  rotate_left
  · intro w hSw; (try dsimp only at hSw); (try go_simp); (try with_reducible rfl)
  try simp only [Act.put, List.setIfInBounds_toArray, List.set_cons_zero, List.set_cons_succ]
  refine until_s0 13 (v := ?_) rfl (by kernel_rfl) (fun _ _ _ h => h) (Or.inl ⟨by rfl, ?_⟩) (by assumption) (fun h => by first | assumption | exact absurd (h : true = false) (by decide)) ?_
  rotate_left
  · intro w hSw; (try dsimp only at hSw); (try go_simp); (try with_reducible rfl)
  try simp only [Act.put, List.setIfInBounds_toArray, List.set_cons_zero, List.set_cons_succ]
  refine until_s0 14 (v := ?_) rfl (by kernel_rfl) (fun _ _ _ h => h) (Or.inl ⟨by rfl, ?_⟩) (by assumption) (fun h => by first | assumption | exact absurd (h : true = false) (by decide)) ?_
  rotate_left
  · intro w hSw; (try dsimp only at hSw); (try go_simp); (try with_reducible rfl)
  try simp only [Act.put, List.setIfInBounds_toArray, List.set_cons_zero, List.set_cons_succ]
  refine until_done (by kernel_rfl) ?_ _
  rw [← HB.out.1]
  have hBs := HB.out.2
  clear k1 k2 s1 mkS hcv A0 A1 A3 hT
  go_wp2_with (first
    | (go_at_call 29; refine (cS _ _ (hI.keep (((hF.trans (Fr.alloc _ _ _)).trans (Fr.alloc _ _ _)).trans (Fr.drew _ _))) (hR.keep (((hF.trans (Fr.alloc _ _ _)).trans (Fr.alloc _ _ _)).trans (Fr.drew _ _)) (by simp)) (At.alloc_new2 _ _ _ _).drew).mono ?_; rintro e w7 ⟨rfl, f7⟩)
    | fail)
  go_ret
  exact ⟨rfl, (((hF.trans (Fr.alloc _ _ _)).trans (Fr.alloc _ _ _)).trans (Fr.drew _ _)).trans f7⟩
end Go.Proofs.YtffhfmaphjjffaaDoor
