/- A share's text read, by the program. -/
import Derived.Test.YtffhfmaphjjffaaDoorShrSplit
import Derived.Test.YtffhfmaphjjffaaDoorShrLinP
import Derived.Test.YtffhfmaphjjffaaDoorUntil
namespace Go.Proofs.YtffhfmaphjjffaaDoor
open Go.RowKit Go.Lib Go.Joins Base Gf
set_option linter.unusedVariables false
set_option linter.unusedSimpArgs false

/-- What the document says a text is. -/
def isE (l : List UInt8) : Int :=
  if l.length = 51 ∧ l.getD 0 0 = 83 then
    if (shaL (l.take 43)).take 8 = l.drop 43 then
      if 1 ≤ (l.getD 1 0).toNat ∧ (l.getD 1 0).toNat ≤ 16 ∧ 1 ≤ (l.getD 2 0).toNat ∧ (l.getD 2 0).toNat ≤ 16 then 0 else 72
    else 71
  else 70
/-- The values of a share, and its number; what it shares with its kin. -/
def valD (l : List UInt8) : List UInt8 := (l.drop 11).take 32
def pointV (x : UInt8) (v : List UInt8) : Value := .agg (Value.int .u8 (bt x) :: byteCells v).toArray
def kinV (k : Nat) (id : ByteArray) : Value := .agg #[.int .i64 k, .string id]
def point0 : Value := .agg (List.replicate 33 (Value.int .u8 0)).toArray
def kin0 : Value := .agg #[.int .i64 0, .string ⟨#[]⟩]
theorem results_ccs {P : Program} {fn : Func} {p q r : Tmp} {t1 t2 : TypeId} (h : fn.results = #[.cell p t1, .cell q t2, .tmp r]) (tmps : Array Value) (w : World) (g1 g2 : Nat) (T1 T2 : TypeId) (c1 c2 : Array Value) (f1 f2 : Nat × Nat) (d1 d2 : TypeDesc)
    (hp : tmps.getD p undef = .pointer (some ⟨g1, 0, none⟩)) (hg1 : w.heap[g1]? = some (.cells c1 T1 f1)) (hu1 : P.underlying t1 = some d1) (hd1 : (match d1 with | .struct _ | .array _ _ => true | _ => false) = true) (hi1 : (P.info? t1).map (·.size) = some c1.size)
    (hq : tmps.getD q undef = .pointer (some ⟨g2, 0, none⟩)) (hg2 : w.heap[g2]? = some (.cells c2 T2 f2)) (hu2 : P.underlying t2 = some d2) (hd2 : (match d2 with | .struct _ | .array _ _ => true | _ => false) = true) (hi2 : (P.info? t2).map (·.size) = some c2.size) :
    (results fn tmps).run P w = .ok (.tuple #[.agg c1, .agg c2, tmps.getD r undef]) w := by
  have hp' : tmps[p]?.getD undef = .pointer (some ⟨g1, 0, none⟩) := by simpa using hp
  have hq' : tmps[q]?.getD undef = .pointer (some ⟨g2, 0, none⟩) := by simpa using hq
  simp [results, h, hp', hq', asAddr, run_loadVar_row w g1 T1 t1 c1 f1 d1 hg1 hu1 hd1 hi1, run_loadVar_row w g2 T2 t2 c2 f2 d2 hg2 hu2 hd2 hi2]
theorem results_scs {P : Program} {fn : Func} {p q r : Tmp} {t2 : TypeId} (h : fn.results = #[.tmp p, .cell q t2, .tmp r]) (tmps : Array Value) (w : World) (g2 : Nat) (T2 : TypeId) (c2 : Array Value) (f2 : Nat × Nat) (d2 : TypeDesc)
    (hq : tmps.getD q undef = .pointer (some ⟨g2, 0, none⟩)) (hg2 : w.heap[g2]? = some (.cells c2 T2 f2)) (hu2 : P.underlying t2 = some d2) (hd2 : (match d2 with | .struct _ | .array _ _ => true | _ => false) = true) (hi2 : (P.info? t2).map (·.size) = some c2.size) :
    (results fn tmps).run P w = .ok (.tuple #[tmps.getD p undef, .agg c2, tmps.getD r undef]) w := by
  have hq' : tmps[q]?.getD undef = .pointer (some ⟨g2, 0, none⟩) := by simpa using hq
  simp [results, h, hq', asAddr, run_loadVar_row w g2 T2 t2 c2 f2 d2 hg2 hu2 hd2 hi2]
theorem sget {s : ByteArray} {l : List UInt8} (h : s.data.toList = l) {i : Nat} (hi : i < s.size) : s[i] = l.getD i 0 :=
  bget _ (by have hp0 : i < s.data.size := hi; rw [← h, List.getD, Array.getElem?_toList, Array.getElem?_eq_getElem hp0]; rfl)

theorem kin_one (k : Int) (id : ByteArray) : (#[Value.int .i64 k, .string id]).all (·.oneCell') = true :=
  all_oneCell_toArray (cs := [.int .i64 k, .string id]) (by intro v hv; simp only [List.mem_cons, List.not_mem_nil, or_false] at hv; rcases hv with rfl | rfl <;> rfl)
theorem lit33 : (#[Value.int IntKind.u8 0, Value.int IntKind.u8 0, Value.int IntKind.u8 0, Value.int IntKind.u8 0, Value.int IntKind.u8 0, Value.int IntKind.u8 0, Value.int IntKind.u8 0, Value.int IntKind.u8 0, Value.int IntKind.u8 0, Value.int IntKind.u8 0, Value.int IntKind.u8 0, Value.int IntKind.u8 0, Value.int IntKind.u8 0, Value.int IntKind.u8 0, Value.int IntKind.u8 0, Value.int IntKind.u8 0, Value.int IntKind.u8 0, Value.int IntKind.u8 0, Value.int IntKind.u8 0, Value.int IntKind.u8 0, Value.int IntKind.u8 0, Value.int IntKind.u8 0, Value.int IntKind.u8 0, Value.int IntKind.u8 0, Value.int IntKind.u8 0, Value.int IntKind.u8 0, Value.int IntKind.u8 0, Value.int IntKind.u8 0, Value.int IntKind.u8 0, Value.int IntKind.u8 0, Value.int IntKind.u8 0, Value.int IntKind.u8 0, Value.int IntKind.u8 0] : Array Value) = (List.replicate 33 (Value.int .u8 0)).toArray := rfl
theorem lit33x (x : UInt8) : (#[Value.int IntKind.u8 (x.toNat : Int), Value.int IntKind.u8 0, Value.int IntKind.u8 0, Value.int IntKind.u8 0, Value.int IntKind.u8 0, Value.int IntKind.u8 0, Value.int IntKind.u8 0, Value.int IntKind.u8 0, Value.int IntKind.u8 0, Value.int IntKind.u8 0, Value.int IntKind.u8 0, Value.int IntKind.u8 0, Value.int IntKind.u8 0, Value.int IntKind.u8 0, Value.int IntKind.u8 0, Value.int IntKind.u8 0, Value.int IntKind.u8 0, Value.int IntKind.u8 0, Value.int IntKind.u8 0, Value.int IntKind.u8 0, Value.int IntKind.u8 0, Value.int IntKind.u8 0, Value.int IntKind.u8 0, Value.int IntKind.u8 0, Value.int IntKind.u8 0, Value.int IntKind.u8 0, Value.int IntKind.u8 0, Value.int IntKind.u8 0, Value.int IntKind.u8 0, Value.int IntKind.u8 0, Value.int IntKind.u8 0, Value.int IntKind.u8 0, Value.int IntKind.u8 0] : Array Value) = (.int .u8 (bt x) :: byteCells (zerosB 32)).toArray := rfl
theorem pt_one (x : UInt8) (v : List UInt8) : ((Value.int .u8 (bt x) :: byteCells v).toArray).all (·.oneCell') = true := all_oneCell_toArray (by
  intro y hy
  rcases List.mem_cons.1 hy with rfl | hy
  · rfl
  · exact byteCells_one v y hy)
theorem point0_all : ((List.replicate 33 (Value.int .u8 0)).toArray).all (·.oneCell') = true := all_oneCell_toArray (by intro v hv; obtain ⟨_, rfl⟩ := List.mem_replicate.1 hv; rfl)
set_option maxRecDepth 100000 in
set_option maxHeartbeats 2000000 in
theorem read_form (s : ByteArray) (h : s.size ≠ 51 ∨ s.size = 51 ∧ s.data.toList.getD 0 0 ≠ 83) (w : World) :
    Calls Tryd.prog 48 #[.string s] w fun e w' => e = .returned (.tuple #[point0, kin0, .int .i64 70]) ∧ Fr [] w w' := by
  have hi1 : (Tryd.prog.info? 66).map (·.size) = some 33 := by kernel_rfl
  have hi2 : (Tryd.prog.info? 69).map (·.size) = some 2 := by kernel_rfl
  have b0 : ((s.size : Int) != 51) = true ∨ ((s.size : Int) != 51) = false ∧ ∃ c : UInt8, ∃ _ : 0 < s.size, s[0] = c ∧ ((c.toNat : Int) != 83) = true := by
    rcases h with h | ⟨h1, h2⟩
    · left; simp; omega
    · right
      refine ⟨by simp; omega, s.data.toList.getD 0 0, by omega, sget rfl (by omega), ?_⟩
      have : (s.data.toList.getD 0 0).toNat ≠ 83 := fun e => h2 (UInt8.toNat_inj.1 (by rw [e]; rfl))
      simp only [bne_iff_ne, ne_eq]; omega
  clear h
  go_enter Tryd.func48, Tryd.ntmps48
  go_upto_region 1 with fail
  have A0 := (At.alloc_new w 66 (List.replicate 33 (Value.int .u8 0)).toArray).alloc (.cells #[.int .i64 0, .string ⟨#[]⟩] 69)
  have A1 := At.alloc_new2 w (.cells (List.replicate 33 (Value.int .u8 0)).toArray 66) 69 #[.int .i64 0, .string ⟨#[]⟩]
  have hF : Fr [] w ((w.alloc (.cells (List.replicate 33 (Value.int .u8 0)).toArray 66)).alloc (.cells #[.int .i64 0, .string ⟨#[]⟩] 69)) := (Fr.alloc _ _ _).trans (Fr.alloc _ _ _)
  rw [lit33]
  obtain ⟨p, hp⟩ : ∃ p, p = w.heap.size := ⟨_, rfl⟩
  have hpw : w.heap.size ≤ p := by omega
  generalize ((w.alloc (.cells (List.replicate 33 (Value.int .u8 0)).toArray 66)).alloc (.cells #[.int .i64 0, .string ⟨#[]⟩] 69)) = W at A0 A1 hF ⊢
  rw [← hp] at A0 A1 ⊢
  clear hp
  have A1' := A1.setRow_other (show p + 1 ≠ p by omega) (List.replicate 33 (Value.int .u8 0)).toArray
  have A0' := A0.setRow (List.replicate 33 (Value.int .u8 0)).toArray
  have A0'' := A0'.setRow_other (show p ≠ p + 1 by omega) #[.int .i64 0, .string ⟨#[]⟩]
  have A1'' := A1'.setRow #[.int .i64 0, .string ⟨#[]⟩]
  have f1 : Fr [] w ((W.setRow p (List.replicate 33 (Value.int .u8 0)).toArray).setRow (p + 1) #[.int .i64 0, .string ⟨#[]⟩]) := hF.new (S := [p, p + 1]) ((Fr.setRow _ _ _ _ (.inl (by simp))).trans (Fr.setRow _ _ _ _ (.inl (by simp)))) (by intro x hx; simp at hx; omega)
  rcases b0 with b0 | ⟨b0, c, hc, g0, b1⟩ <;>
  · go_wp2_with (first
      | (rw [lit33]; refine wpList_store_row rfl _ _ _ rfl _ _ rfl rfl _ _ A0.out hi1 rfl point0_all ?_)
      | refine wpList_store_row rfl _ _ _ rfl _ _ rfl rfl _ _ A1'.out hi2 rfl (kin_one _ _) ?_
      | fail)
    refine ⟨rfl, _, results_ccs rfl _ _ p (p + 1) _ _ _ _ _ _ _ _ rfl A0''.out Tryd.underlying66 rfl hi1 rfl A1''.out Tryd.underlying69 rfl hi2, rfl, f1⟩

/-- A text of the right size: its parts. -/
theorem read_parts (s : ByteArray) (h1 : s.size = 51) (h2 : s.data.toList.getD 0 0 = 83) : ∃ (B E S : ByteArray) (x k : UInt8) (_ : 0 < s.size) (_ : 1 < s.size) (_ : 2 < s.size), s[0] = 83 ∧ s[1] = x ∧ s[2] = k ∧ s.data.toList.getD 1 0 = x ∧ s.data.toList.getD 2 0 = k ∧ s.extract 0 43 = B ∧ s.extract 43 51 = E ∧ B.size = 43 ∧ E.size = 8 ∧ S.size = 32 ∧ (B.data.toList = s.data.toList.take 43) ∧
    (∀ w g, First w → Roots w → At w g 9 [.string B] → Calls Tryd.prog 29 #[.slice (some ⟨g, 0, none⟩) 1 1] w fun e w' => e = .returned (.string S) ∧ Fr [] w w') ∧ ((S.extract 0 8 = E) ↔ (shaL (s.data.toList.take 43)).take 8 = s.data.toList.drop 43) := by
  have hl : s.data.toList.length = 51 := by simpa using h1
  have es : s = ⟨s.data.toList.toArray⟩ := by simp
  have e1 : s.extract 0 43 = ⟨(s.data.toList.take 43).toArray⟩ := by conv => lhs; rw [es, str_take]
  have e2 : s.extract 43 51 = ⟨(s.data.toList.drop 43).toArray⟩ := by conv => lhs; rw [es, str_mid _ _ _ (by omega), List.take_of_length_le (by simp; omega)]
  refine ⟨s.extract 0 43, s.extract 43 51, ⟨(shaL (s.data.toList.take 43)).toArray⟩, _, _, by omega, by omega, by omega, by rw [sget rfl (by omega), h2], sget rfl (by omega), sget rfl (by omega), rfl, rfl, rfl, rfl, ?_, ?_, ?_, by rw [e1], fun w g hI hR hA => ?_, ?_⟩
  · rw [ByteArray.size_extract]; omega
  · rw [ByteArray.size_extract]; omega
  · show (shaL _).toArray.size = 32; rw [List.size_toArray, shaL_len]
  · have := sum_one (s.extract 0 43) (by rw [ByteArray.size_extract]; omega) w g hI hR hA
    rw [show (s.extract 0 43).data.toList = s.data.toList.take 43 by rw [e1]] at this
    exact this
  · rw [str_take, e2]
    constructor
    · intro h
      have := congrArg (fun b : ByteArray => b.data.toList) h
      simpa using this
    · intro h; rw [h]
theorem str_neq {a b : ByteArray} (h : a ≠ b) : (a.toList == b.toList) = false := by
  rw [ByteArray.toList_eq, ByteArray.toList_eq, beq_eq_false_iff_ne]
  exact fun e => h (ByteArray.ext (Array.toList_inj.1 e))
theorem str_eq {a b : ByteArray} (h : a = b) : (a.toList == b.toList) = true := by rw [h]; exact beq_self_eq_true _
set_option maxRecDepth 100000 in
set_option maxHeartbeats 4000000 in
theorem read_check (s : ByteArray) (h1 : s.size = 51) (h2 : s.data.toList.getD 0 0 = 83) (h3 : (shaL (s.data.toList.take 43)).take 8 ≠ s.data.toList.drop 43) (w : World) (hI : First w) (hR : Roots w) :
    Calls Tryd.prog 48 #[.string s] w fun e w' => e = .returned (.tuple #[point0, kin0, .int .i64 71]) ∧ Fr [] w w' := by
  have hi1 : (Tryd.prog.info? 66).map (·.size) = some 33 := by kernel_rfl
  have hi2 : (Tryd.prog.info? 69).map (·.size) = some 2 := by kernel_rfl
  obtain ⟨B, E, S, x, k, i0, i1, i2, g0, g1, g2, gx, gk, eB, eE, hB, hE, hS, _, cS, hiff⟩ := read_parts s h1 h2
  have b0 : ((s.size : Int) != 51) = false := by simp; omega
  have b2 := str_neq (fun e => h3 (hiff.1 e) : S.extract 0 8 ≠ E)
  clear h2 h3 hiff g1 g2 gx gk
  go_enter Tryd.func48, Tryd.ntmps48
  go_upto_region 1 with fail
  have A0 := (At.alloc_new w 66 (List.replicate 33 (Value.int .u8 0)).toArray).alloc (.cells #[.int .i64 0, .string ⟨#[]⟩] 69)
  have A1 := At.alloc_new2 w (.cells (List.replicate 33 (Value.int .u8 0)).toArray 66) 69 #[.int .i64 0, .string ⟨#[]⟩]
  have hF : Fr [] w ((w.alloc (.cells (List.replicate 33 (Value.int .u8 0)).toArray 66)).alloc (.cells #[.int .i64 0, .string ⟨#[]⟩] 69)) := (Fr.alloc _ _ _).trans (Fr.alloc _ _ _)
  rw [lit33]
  obtain ⟨p, hp⟩ : ∃ p, p = w.heap.size := ⟨_, rfl⟩
  have hpw : w.heap.size ≤ p := by omega
  generalize ((w.alloc (.cells (List.replicate 33 (Value.int .u8 0)).toArray 66)).alloc (.cells #[.int .i64 0, .string ⟨#[]⟩] 69)) = W at A0 A1 hF ⊢
  rw [← hp] at A0 A1 ⊢
  clear hp
  go_wp2_with fail
  refine wp_region_until (fun _ => True) (fun _ => True) 1000 (by rfl) ?_
  have hT : True := trivial
  refine until_s0 0 (v := ?_) rfl (by kernel_rfl) (fun _ _ _ h => h) (Or.inl ⟨by rfl, ?_⟩) (by assumption) (fun h => by first | assumption | exact absurd (h : true = false) (by decide)) ?_
  rotate_left
  · intro w hSw; (try dsimp only at hSw); (try go_simp); (try with_reducible rfl)
  try simp only [Act.put, List.setIfInBounds_toArray, List.set_cons_zero, List.set_cons_succ]
  refine until_s0 1 (v := ?_) rfl (by kernel_rfl) (fun _ _ _ h => h) (Or.inl ⟨by rfl, ?_⟩) (by assumption) (fun h => by first | assumption | exact absurd (h : true = false) (by decide)) ?_
  rotate_left
  · intro w hSw; (try dsimp only at hSw); (try go_simp); (try with_reducible rfl)
  try simp only [Act.put, List.setIfInBounds_toArray, List.set_cons_zero, List.set_cons_succ]
  refine until_s0 2 (v := ?_) rfl (by kernel_rfl) (fun _ _ _ h => h) (Or.inl ⟨by rfl, ?_⟩) (by assumption) (fun h => by first | assumption | exact absurd (h : true = false) (by decide)) ?_
  rotate_left
  · intro w hSw; (try dsimp only at hSw); (try go_simp); (try with_reducible rfl)
  try simp only [Act.put, List.setIfInBounds_toArray, List.set_cons_zero, List.set_cons_succ]
  refine until_s0 6 (v := ?_) rfl (by kernel_rfl) (fun _ _ _ h => h) (Or.inl ⟨by rfl, ?_⟩) (by assumption) (fun h => by first | assumption | exact absurd (h : true = false) (by decide)) ?_
  rotate_left
  · intro w hSw; (try dsimp only at hSw); (try go_simp); (try with_reducible rfl)
  try simp only [Act.put, List.setIfInBounds_toArray, List.set_cons_zero, List.set_cons_succ]
  refine until_s0 7 (v := ?_) rfl (by kernel_rfl) (fun _ _ _ h => h) (Or.inl ⟨by rfl, ?_⟩) (by assumption) (fun h => by first | assumption | exact absurd (h : true = false) (by decide)) ?_
  rotate_left
  · intro w hSw; (try dsimp only at hSw); (try go_simp); (try with_reducible rfl)
  try simp only [Act.put, List.setIfInBounds_toArray, List.set_cons_zero, List.set_cons_succ]
  refine until_s0 8 (v := ?_) rfl (by kernel_rfl) (fun _ _ _ h => h) (Or.inl ⟨by rfl, ?_⟩) (by assumption) (fun h => by first | assumption | exact absurd (h : true = false) (by decide)) ?_
  rotate_left
  · intro w hSw; (try dsimp only at hSw); (try go_simp); (try with_reducible rfl)
  try simp only [Act.put, List.setIfInBounds_toArray, List.set_cons_zero, List.set_cons_succ]
  refine until_sole 3 rfl (by kernel_rfl) (by rfl) ?_
  intro K' hK
  go_simp
  refine hK _ _ hT (fun _ => trivial) ?_
  clear hK
  skip
  refine until_sole 4 rfl (by kernel_rfl) (by rfl) ?_
  intro K' hK
  go_simp
  go_at_call 29
  have hF1 : Fr [] w (W.alloc (.cells #[Value.string B] 9)).drew := (hF.trans (Fr.alloc _ _ _)).trans (Fr.drew _ _)
  refine (cS _ _ (hI.keep hF1) (hR.keep hF1 (by simp)) (At.alloc_new W _ _).drew).mono ?_
  rintro e w1 ⟨rfl, f1⟩
  go_wp2_with fail
  refine hK _ _ hT (fun _ => trivial) ?_
  clear hK cS
  have hF := hF1.trans f1
  have A0 := f1.keep ((A0.alloc (.cells #[Value.string B] 9)).drew) (by simp)
  have A1 := f1.keep ((A1.alloc (.cells #[Value.string B] 9)).drew) (by simp)
  clear f1 hF1
  refine until_s0 5 (v := ?_) rfl (by kernel_rfl) (fun _ _ _ h => h) (Or.inl ⟨by rfl, ?_⟩) (by assumption) (fun h => by first | assumption | exact absurd (h : true = false) (by decide)) ?_
  rotate_left
  · intro w hSw; (try dsimp only at hSw); (try go_simp); (try with_reducible rfl)
  try simp only [Act.put, List.setIfInBounds_toArray, List.set_cons_zero, List.set_cons_succ]
  refine until_s0 9 (v := ?_) rfl (by kernel_rfl) (fun _ _ _ h => h) (Or.inl ⟨by rfl, ?_⟩) (by assumption) (fun h => by first | assumption | exact absurd (h : true = false) (by decide)) ?_
  rotate_left
  · intro w hSw; (try dsimp only at hSw); (try go_simp); (try with_reducible rfl)
  try simp only [Act.put, List.setIfInBounds_toArray, List.set_cons_zero, List.set_cons_succ]
  refine until_done (by kernel_rfl) ?_ _
  have A1' := A1.setRow_other (show p + 1 ≠ p by omega) (List.replicate 33 (Value.int .u8 0)).toArray
  have A0' := A0.setRow (List.replicate 33 (Value.int .u8 0)).toArray
  have A0'' := A0'.setRow_other (show p ≠ p + 1 by omega) #[.int .i64 0, .string ⟨#[]⟩]
  have A1'' := A1'.setRow #[.int .i64 0, .string ⟨#[]⟩]
  have f1 : Fr [] w ((w1.setRow p (List.replicate 33 (Value.int .u8 0)).toArray).setRow (p + 1) #[.int .i64 0, .string ⟨#[]⟩]) := hF.new (S := [p, p + 1]) ((Fr.setRow _ _ _ _ (.inl (by simp))).trans (Fr.setRow _ _ _ _ (.inl (by simp)))) (by intro x hx; simp at hx; omega)
  go_wp2_with (first
      | (rw [lit33]; refine wpList_store_row rfl _ _ _ rfl _ _ rfl rfl _ _ A0.out hi1 rfl point0_all ?_)
      | refine wpList_store_row rfl _ _ _ rfl _ _ rfl rfl _ _ A1'.out hi2 rfl (kin_one _ _) ?_
      | fail)
  refine ⟨rfl, _, results_ccs rfl _ _ p (p + 1) _ _ _ _ _ _ _ _ rfl A0''.out Tryd.underlying66 rfl hi1 rfl A1''.out Tryd.underlying69 rfl hi2, rfl, f1⟩
set_option maxRecDepth 100000 in
set_option maxHeartbeats 4000000 in
theorem read_field (s : ByteArray) (h1 : s.size = 51) (h2 : s.data.toList.getD 0 0 = 83) (h3 : (shaL (s.data.toList.take 43)).take 8 = s.data.toList.drop 43) (h4 : ¬ (1 ≤ (s.data.toList.getD 1 0).toNat ∧ (s.data.toList.getD 1 0).toNat ≤ 16 ∧ 1 ≤ (s.data.toList.getD 2 0).toNat ∧ (s.data.toList.getD 2 0).toNat ≤ 16)) (w : World) (hI : First w) (hR : Roots w) :
    Calls Tryd.prog 48 #[.string s] w fun e w' => e = .returned (.tuple #[point0, kin0, .int .i64 72]) ∧ Fr [] w w' := by
  have hi1 : (Tryd.prog.info? 66).map (·.size) = some 33 := by kernel_rfl
  have hi2 : (Tryd.prog.info? 69).map (·.size) = some 2 := by kernel_rfl
  obtain ⟨B, E, S, x, k, i0, i1, i2, g0, g1, g2, gx, gk, eB, eE, hB, hE, hS, _, cS, hiff⟩ := read_parts s h1 h2
  have b0 : ((s.size : Int) != 51) = false := by simp; omega
  rw [gx, gk] at h4
  have b2 := str_eq (hiff.2 h3)
  have hc : (x.toNat : Int) < 1 ∨ ¬ (x.toNat : Int) < 1 ∧ 16 < (x.toNat : Int) ∨ ¬ (x.toNat : Int) < 1 ∧ ¬ 16 < (x.toNat : Int) ∧ (k.toNat : Int) < 1 ∨ ¬ (x.toNat : Int) < 1 ∧ ¬ 16 < (x.toNat : Int) ∧ ¬ (k.toNat : Int) < 1 ∧ 16 < (k.toNat : Int) := by omega
  clear h2 h3 h4 hiff gx gk
  go_enter Tryd.func48, Tryd.ntmps48
  go_upto_region 1 with fail
  have A0 := (At.alloc_new w 66 (List.replicate 33 (Value.int .u8 0)).toArray).alloc (.cells #[.int .i64 0, .string ⟨#[]⟩] 69)
  have A1 := At.alloc_new2 w (.cells (List.replicate 33 (Value.int .u8 0)).toArray 66) 69 #[.int .i64 0, .string ⟨#[]⟩]
  have hF : Fr [] w ((w.alloc (.cells (List.replicate 33 (Value.int .u8 0)).toArray 66)).alloc (.cells #[.int .i64 0, .string ⟨#[]⟩] 69)) := (Fr.alloc _ _ _).trans (Fr.alloc _ _ _)
  rw [lit33]
  obtain ⟨p, hp⟩ : ∃ p, p = w.heap.size := ⟨_, rfl⟩
  have hpw : w.heap.size ≤ p := by omega
  generalize ((w.alloc (.cells (List.replicate 33 (Value.int .u8 0)).toArray 66)).alloc (.cells #[.int .i64 0, .string ⟨#[]⟩] 69)) = W at A0 A1 hF ⊢
  rw [← hp] at A0 A1 ⊢
  clear hp
  go_wp2_with fail
  refine wp_region_until (fun _ => True) (fun _ => True) 1000 (by rfl) ?_
  have hT : True := trivial
  refine until_s0 0 (v := ?_) rfl (by kernel_rfl) (fun _ _ _ h => h) (Or.inl ⟨by rfl, ?_⟩) (by assumption) (fun h => by first | assumption | exact absurd (h : true = false) (by decide)) ?_
  rotate_left
  · intro w hSw; (try dsimp only at hSw); (try go_simp); (try with_reducible rfl)
  try simp only [Act.put, List.setIfInBounds_toArray, List.set_cons_zero, List.set_cons_succ]
  refine until_s0 1 (v := ?_) rfl (by kernel_rfl) (fun _ _ _ h => h) (Or.inl ⟨by rfl, ?_⟩) (by assumption) (fun h => by first | assumption | exact absurd (h : true = false) (by decide)) ?_
  rotate_left
  · intro w hSw; (try dsimp only at hSw); (try go_simp); (try with_reducible rfl)
  try simp only [Act.put, List.setIfInBounds_toArray, List.set_cons_zero, List.set_cons_succ]
  refine until_s0 2 (v := ?_) rfl (by kernel_rfl) (fun _ _ _ h => h) (Or.inl ⟨by rfl, ?_⟩) (by assumption) (fun h => by first | assumption | exact absurd (h : true = false) (by decide)) ?_
  rotate_left
  · intro w hSw; (try dsimp only at hSw); (try go_simp); (try with_reducible rfl)
  try simp only [Act.put, List.setIfInBounds_toArray, List.set_cons_zero, List.set_cons_succ]
  refine until_s0 6 (v := ?_) rfl (by kernel_rfl) (fun _ _ _ h => h) (Or.inl ⟨by rfl, ?_⟩) (by assumption) (fun h => by first | assumption | exact absurd (h : true = false) (by decide)) ?_
  rotate_left
  · intro w hSw; (try dsimp only at hSw); (try go_simp); (try with_reducible rfl)
  try simp only [Act.put, List.setIfInBounds_toArray, List.set_cons_zero, List.set_cons_succ]
  refine until_s0 7 (v := ?_) rfl (by kernel_rfl) (fun _ _ _ h => h) (Or.inl ⟨by rfl, ?_⟩) (by assumption) (fun h => by first | assumption | exact absurd (h : true = false) (by decide)) ?_
  rotate_left
  · intro w hSw; (try dsimp only at hSw); (try go_simp); (try with_reducible rfl)
  try simp only [Act.put, List.setIfInBounds_toArray, List.set_cons_zero, List.set_cons_succ]
  refine until_s0 8 (v := ?_) rfl (by kernel_rfl) (fun _ _ _ h => h) (Or.inl ⟨by rfl, ?_⟩) (by assumption) (fun h => by first | assumption | exact absurd (h : true = false) (by decide)) ?_
  rotate_left
  · intro w hSw; (try dsimp only at hSw); (try go_simp); (try with_reducible rfl)
  try simp only [Act.put, List.setIfInBounds_toArray, List.set_cons_zero, List.set_cons_succ]
  refine until_sole 3 rfl (by kernel_rfl) (by rfl) ?_
  intro K' hK
  go_simp
  refine hK _ _ hT (fun _ => trivial) ?_
  clear hK
  skip
  refine until_sole 4 rfl (by kernel_rfl) (by rfl) ?_
  intro K' hK
  go_simp
  go_at_call 29
  have hF1 : Fr [] w (W.alloc (.cells #[Value.string B] 9)).drew := (hF.trans (Fr.alloc _ _ _)).trans (Fr.drew _ _)
  refine (cS _ _ (hI.keep hF1) (hR.keep hF1 (by simp)) (At.alloc_new W _ _).drew).mono ?_
  rintro e w1 ⟨rfl, f1⟩
  go_wp2_with fail
  refine hK _ _ hT (fun _ => trivial) ?_
  clear hK cS
  have hF := hF1.trans f1
  have A0 := f1.keep ((A0.alloc (.cells #[Value.string B] 9)).drew) (by simp)
  have A1 := f1.keep ((A1.alloc (.cells #[Value.string B] 9)).drew) (by simp)
  clear f1 hF1
  refine until_s0 5 (v := ?_) rfl (by kernel_rfl) (fun _ _ _ h => h) (Or.inl ⟨by rfl, ?_⟩) (by assumption) (fun h => by first | assumption | exact absurd (h : true = false) (by decide)) ?_
  rotate_left
  · intro w hSw; (try dsimp only at hSw); (try go_simp); (try with_reducible rfl)
  try simp only [Act.put, List.setIfInBounds_toArray, List.set_cons_zero, List.set_cons_succ]
  refine until_s0 9 (v := ?_) rfl (by kernel_rfl) (fun _ _ _ h => h) (Or.inl ⟨by rfl, ?_⟩) (by assumption) (fun h => by first | assumption | exact absurd (h : true = false) (by decide)) ?_
  rotate_left
  · intro w hSw; (try dsimp only at hSw); (try go_simp); (try with_reducible rfl)
  try simp only [Act.put, List.setIfInBounds_toArray, List.set_cons_zero, List.set_cons_succ]
  refine until_done (by kernel_rfl) ?_ _
  have A1' := A1.setRow_other (show p + 1 ≠ p by omega) (List.replicate 33 (Value.int .u8 0)).toArray
  have A0' := A0.setRow (List.replicate 33 (Value.int .u8 0)).toArray
  have A0'' := A0'.setRow_other (show p ≠ p + 1 by omega) #[.int .i64 0, .string ⟨#[]⟩]
  have A1'' := A1'.setRow #[.int .i64 0, .string ⟨#[]⟩]
  have f1 : Fr [] w ((w1.setRow p (List.replicate 33 (Value.int .u8 0)).toArray).setRow (p + 1) #[.int .i64 0, .string ⟨#[]⟩]) := hF.new (S := [p, p + 1]) ((Fr.setRow _ _ _ _ (.inl (by simp))).trans (Fr.setRow _ _ _ _ (.inl (by simp)))) (by intro x hx; simp at hx; omega)
  rcases hc with c1 | ⟨c1, c2⟩ | ⟨c1, c2, c3⟩ | ⟨c1, c2, c3, c4⟩ <;>
  · go_wp2_with (first
      | (rw [lit33]; refine wpList_store_row rfl _ _ _ rfl _ _ rfl rfl _ _ A0.out hi1 rfl point0_all ?_)
      | refine wpList_store_row rfl _ _ _ rfl _ _ rfl rfl _ _ A1'.out hi2 rfl (kin_one _ _) ?_
      | fail)
    refine ⟨rfl, _, results_ccs rfl _ _ p (p + 1) _ _ _ _ _ _ _ _ rfl A0''.out Tryd.underlying66 rfl hi1 rfl A1''.out Tryd.underlying69 rfl hi2, rfl, f1⟩
set_option maxRecDepth 100000 in
set_option maxHeartbeats 4000000 in
theorem read_good (s : ByteArray) (h1 : s.size = 51) (h2 : s.data.toList.getD 0 0 = 83) (h3 : (shaL (s.data.toList.take 43)).take 8 = s.data.toList.drop 43) (h4 : 1 ≤ (s.data.toList.getD 1 0).toNat ∧ (s.data.toList.getD 1 0).toNat ≤ 16 ∧ 1 ≤ (s.data.toList.getD 2 0).toNat ∧ (s.data.toList.getD 2 0).toNat ≤ 16) (w : World) (hI : First w) (hR : Roots w) :
    Calls Tryd.prog 48 #[.string s] w fun e w' => e = .returned (.tuple #[pointV (s.data.toList.getD 1 0) (valD s.data.toList), kinV (s.data.toList.getD 2 0).toNat (s.extract 3 11), .int .i64 0]) ∧ Fr [] w w' := by
  have hi1 : (Tryd.prog.info? 66).map (·.size) = some 33 := by kernel_rfl
  have hi2 : (Tryd.prog.info? 69).map (·.size) = some 2 := by kernel_rfl
  obtain ⟨B, E, S, x, k, i0, i1, i2, g0, g1, g2, gx, gk, eB, eE, hB, hE, hS, _, cS, hiff⟩ := read_parts s h1 h2
  have b0 : ((s.size : Int) != 51) = false := by simp; omega
  rw [gx, gk] at h4 ⊢
  have b2 := str_eq (hiff.2 h3)
  have c1 : ¬ (x.toNat : Int) < 1 := by omega
  have c2 : ¬ 16 < (x.toNat : Int) := by omega
  have c3 : ¬ (k.toNat : Int) < 1 := by omega
  have c4 : ¬ 16 < (k.toNat : Int) := by omega
  clear h2 h3 h4 hiff gx gk
  go_enter Tryd.func48, Tryd.ntmps48
  go_upto_region 1 with fail
  have A0 := (At.alloc_new w 66 (List.replicate 33 (Value.int .u8 0)).toArray).alloc (.cells #[.int .i64 0, .string ⟨#[]⟩] 69)
  have A1 := At.alloc_new2 w (.cells (List.replicate 33 (Value.int .u8 0)).toArray 66) 69 #[.int .i64 0, .string ⟨#[]⟩]
  have hF : Fr [] w ((w.alloc (.cells (List.replicate 33 (Value.int .u8 0)).toArray 66)).alloc (.cells #[.int .i64 0, .string ⟨#[]⟩] 69)) := (Fr.alloc _ _ _).trans (Fr.alloc _ _ _)
  rw [lit33]
  obtain ⟨p, hp⟩ : ∃ p, p = w.heap.size := ⟨_, rfl⟩
  have hpw : w.heap.size ≤ p := by omega
  generalize ((w.alloc (.cells (List.replicate 33 (Value.int .u8 0)).toArray 66)).alloc (.cells #[.int .i64 0, .string ⟨#[]⟩] 69)) = W at A0 A1 hF ⊢
  rw [← hp] at A0 A1 ⊢
  clear hp
  go_wp2_with fail
  refine wp_region_until (fun _ => True) (fun _ => True) 1000 (by rfl) ?_
  have hT : True := trivial
  refine until_s0 0 (v := ?_) rfl (by kernel_rfl) (fun _ _ _ h => h) (Or.inl ⟨by rfl, ?_⟩) (by assumption) (fun h => by first | assumption | exact absurd (h : true = false) (by decide)) ?_
  rotate_left
  · intro w hSw; (try dsimp only at hSw); (try go_simp); (try with_reducible rfl)
  try simp only [Act.put, List.setIfInBounds_toArray, List.set_cons_zero, List.set_cons_succ]
  refine until_s0 1 (v := ?_) rfl (by kernel_rfl) (fun _ _ _ h => h) (Or.inl ⟨by rfl, ?_⟩) (by assumption) (fun h => by first | assumption | exact absurd (h : true = false) (by decide)) ?_
  rotate_left
  · intro w hSw; (try dsimp only at hSw); (try go_simp); (try with_reducible rfl)
  try simp only [Act.put, List.setIfInBounds_toArray, List.set_cons_zero, List.set_cons_succ]
  refine until_s0 2 (v := ?_) rfl (by kernel_rfl) (fun _ _ _ h => h) (Or.inl ⟨by rfl, ?_⟩) (by assumption) (fun h => by first | assumption | exact absurd (h : true = false) (by decide)) ?_
  rotate_left
  · intro w hSw; (try dsimp only at hSw); (try go_simp); (try with_reducible rfl)
  try simp only [Act.put, List.setIfInBounds_toArray, List.set_cons_zero, List.set_cons_succ]
  refine until_s0 6 (v := ?_) rfl (by kernel_rfl) (fun _ _ _ h => h) (Or.inl ⟨by rfl, ?_⟩) (by assumption) (fun h => by first | assumption | exact absurd (h : true = false) (by decide)) ?_
  rotate_left
  · intro w hSw; (try dsimp only at hSw); (try go_simp); (try with_reducible rfl)
  try simp only [Act.put, List.setIfInBounds_toArray, List.set_cons_zero, List.set_cons_succ]
  refine until_s0 7 (v := ?_) rfl (by kernel_rfl) (fun _ _ _ h => h) (Or.inl ⟨by rfl, ?_⟩) (by assumption) (fun h => by first | assumption | exact absurd (h : true = false) (by decide)) ?_
  rotate_left
  · intro w hSw; (try dsimp only at hSw); (try go_simp); (try with_reducible rfl)
  try simp only [Act.put, List.setIfInBounds_toArray, List.set_cons_zero, List.set_cons_succ]
  refine until_s0 8 (v := ?_) rfl (by kernel_rfl) (fun _ _ _ h => h) (Or.inl ⟨by rfl, ?_⟩) (by assumption) (fun h => by first | assumption | exact absurd (h : true = false) (by decide)) ?_
  rotate_left
  · intro w hSw; (try dsimp only at hSw); (try go_simp); (try with_reducible rfl)
  try simp only [Act.put, List.setIfInBounds_toArray, List.set_cons_zero, List.set_cons_succ]
  refine until_sole 3 rfl (by kernel_rfl) (by rfl) ?_
  intro K' hK
  go_simp
  refine hK _ _ hT (fun _ => trivial) ?_
  clear hK
  skip
  refine until_sole 4 rfl (by kernel_rfl) (by rfl) ?_
  intro K' hK
  go_simp
  go_at_call 29
  have hF1 : Fr [] w (W.alloc (.cells #[Value.string B] 9)).drew := (hF.trans (Fr.alloc _ _ _)).trans (Fr.drew _ _)
  refine (cS _ _ (hI.keep hF1) (hR.keep hF1 (by simp)) (At.alloc_new W _ _).drew).mono ?_
  rintro e w1 ⟨rfl, f1⟩
  go_wp2_with fail
  refine hK _ _ hT (fun _ => trivial) ?_
  clear hK cS
  have hF := hF1.trans f1
  have A0 := f1.keep ((A0.alloc (.cells #[Value.string B] 9)).drew) (by simp)
  have A1 := f1.keep ((A1.alloc (.cells #[Value.string B] 9)).drew) (by simp)
  clear f1 hF1
  refine until_s0 5 (v := ?_) rfl (by kernel_rfl) (fun _ _ _ h => h) (Or.inl ⟨by rfl, ?_⟩) (by assumption) (fun h => by first | assumption | exact absurd (h : true = false) (by decide)) ?_
  rotate_left
  · intro w hSw; (try dsimp only at hSw); (try go_simp); (try with_reducible rfl)
  try simp only [Act.put, List.setIfInBounds_toArray, List.set_cons_zero, List.set_cons_succ]
  refine until_s0 9 (v := ?_) rfl (by kernel_rfl) (fun _ _ _ h => h) (Or.inl ⟨by rfl, ?_⟩) (by assumption) (fun h => by first | assumption | exact absurd (h : true = false) (by decide)) ?_
  rotate_left
  · intro w hSw; (try dsimp only at hSw); (try go_simp); (try with_reducible rfl)
  try simp only [Act.put, List.setIfInBounds_toArray, List.set_cons_zero, List.set_cons_succ]
  refine until_done (by kernel_rfl) ?_ _
  go_upto_region 8 with fail
  have A2 := At.alloc_new w1 66 (List.replicate 33 (Value.int .u8 0)).toArray
  obtain ⟨q, hq⟩ : ∃ q, q = w1.heap.size := ⟨_, rfl⟩
  rw [← hq] at A2
  have hqw : w.heap.size ≤ q := by have := hF.size; omega
  have hpq : p ≠ q := by have := A0.lt; omega
  have hpq1 : p + 1 ≠ q := by have := A1.lt; omega
  go_upto_region 9 with (first
    | (rw [lit33, lit33x, ← hq]; refine wpList_store_row rfl _ _ _ rfl _ _ rfl rfl _ _ A2.out hi1 rfl (pt_one _ _) ?_)
    | fail)
  have A2 := A2.setRow (.int .u8 (bt x) :: byteCells (zerosB 32)).toArray
  have A0 := (A0.alloc (.cells (List.replicate 33 (Value.int .u8 0)).toArray 66)).setRow_other hpq (.int .u8 (bt x) :: byteCells (zerosB 32)).toArray
  have A1 := (A1.alloc (.cells (List.replicate 33 (Value.int .u8 0)).toArray 66)).setRow_other hpq1 (.int .u8 (bt x) :: byteCells (zerosB 32)).toArray
  have hF := (hF.trans (Fr.alloc [] _ (.cells (List.replicate 33 (Value.int .u8 0)).toArray 66))).new (Fr.setRow [q] _ q (.int .u8 (bt x) :: byteCells (zerosB 32)).toArray (.inl (by simp))) (by simp; exact hqw)
  clear hq
  generalize (w1.alloc (.cells (List.replicate 33 (Value.int .u8 0)).toArray 66)).setRow q (.int .u8 (bt x) :: byteCells (zerosB 32)).toArray = W2 at A0 A1 A2 hF ⊢
  try simp only [Act.put]
  have hl : s.data.toList.length = 51 := by simpa using h1
  obtain ⟨V, hV⟩ : ∃ V, V = valD s.data.toList := ⟨_, rfl⟩
  have hVl : V.length = 32 := by rw [hV]; simp [valD]; omega
  obtain ⟨M, eM⟩ : ∃ M, s.extract 11 51 = M := ⟨_, rfl⟩
  have hM : M.size = 40 := by rw [← eM, ByteArray.size_extract]; omega
  have hMd : M.data.toList.take 32 = V := by
    rw [← eM, hV, valD]
    have es : s = ⟨s.data.toList.toArray⟩ := by simp
    have : (s.extract 11 51).data.toList = s.data.toList.drop 11 := by
      conv => lhs; rw [es, str_mid _ _ _ (by omega), List.take_of_length_le (by simp; omega)]
    rw [this]
  obtain ⟨J, eJ⟩ : ∃ J, s.extract 3 11 = J := ⟨_, rfl⟩
  have HVJ := Lib.hid (And.intro hV eJ)
  have hcp : ∀ ty, (Builtin.copy_ #[55, 9] ty #[.slice (some ⟨q, 1, none⟩) 32 32, .string M]).run Tryd.prog W2.drew = .ok (goInt 32) (W2.drew.setRow q (Value.int .u8 (bt x) :: byteCells V).toArray) := fun ty => by
    have := run_copy_cut (P := Tryd.prog) W2.drew 55 9 ty 5 q 1 32 32 M _ _ Tryd.underlying55 (by kernel_rfl) A2.drew.out 32 (by omega) (by simp [byteCells_length, zerosB])
    rw [hMd] at this
    rw [this]
    congr 3
    simp [byteCells_length, zerosB, byteCells]
  clear hV hMd
  have hi3 : (Tryd.prog.info? 66).map (·.size) = some (Value.int .u8 (bt x) :: byteCells V).toArray.size := by rw [hi1]; simp [byteCells_length, hVl]
  go_region
  go_wp2_with fail
  have A3 := (A2.setRow (Value.int .u8 (bt x) :: byteCells V).toArray).drew
  have A0 := (A0.setRow_other hpq (Value.int .u8 (bt x) :: byteCells V).toArray).drew
  have A1 := (A1.setRow_other hpq1 (Value.int .u8 (bt x) :: byteCells V).toArray).drew
  have hF := hF.new ((Fr.setRow [q] W2 q (Value.int .u8 (bt x) :: byteCells V).toArray (.inl (by simp))).trans (Fr.drew [q] _)) (by simp; exact hqw)
  clear hcp A2
  generalize (W2.setRow q (Value.int .u8 (bt x) :: byteCells V).toArray).drew = W3 at A0 A1 A3 hF ⊢
  have hld : ∀ w', At w' q 66 (Value.int .u8 (bt x) :: byteCells V).toArray.toList → (loadVar 66 ⟨q, 0, none⟩).run Tryd.prog w' = .ok (.agg (Value.int .u8 (bt x) :: byteCells V).toArray) w' := fun w' h =>
    run_loadVar_row w' q 66 66 (Value.int .u8 (bt x) :: byteCells V).toArray _ _ h.out Tryd.underlying66 rfl hi3
  refine wp_region_until (fun w' => (loadVar 66 ⟨q, 0, none⟩).run Tryd.prog w' = .ok (.agg (Value.int .u8 (bt x) :: byteCells V).toArray) w') (fun _ => True) 1000 (by rfl) ?_
  have hT : True := trivial
  have s0 := hld _ A3.drew
  refine until_s0 0 (v := .agg (Value.int .u8 (bt x) :: byteCells V).toArray) rfl (by kernel_rfl) (fun _ _ _ h => h) (Or.inl ⟨by rfl, fun w' hS => exec_load rfl rfl hS⟩) (by assumption) (fun h => by first | assumption | exact absurd (h : true = false) (by decide)) ?_
  simp only [Act.put, List.setIfInBounds_toArray, List.set_cons_zero, List.set_cons_succ]
  refine until_s0 1 (v := ?_) rfl (by kernel_rfl) (fun _ _ _ h => h) (Or.inl ⟨by rfl, ?_⟩) (by assumption) (fun h => by first | assumption | exact absurd (h : true = false) (by decide)) ?_
  rotate_left
  · intro w hSw; (try dsimp only at hSw); (try go_simp); (try with_reducible rfl)
  try simp only [Act.put, List.setIfInBounds_toArray, List.set_cons_zero, List.set_cons_succ]
  refine until_s0 2 (v := ?_) rfl (by kernel_rfl) (fun _ _ _ h => h) (Or.inl ⟨by rfl, ?_⟩) (by assumption) (fun h => by first | assumption | exact absurd (h : true = false) (by decide)) ?_
  rotate_left
  · intro w hSw; (try dsimp only at hSw); (try go_simp); (try with_reducible rfl)
  try simp only [Act.put, List.setIfInBounds_toArray, List.set_cons_zero, List.set_cons_succ]
  refine until_s0 3 (v := ?_) rfl (by kernel_rfl) (fun _ _ _ h => h) (Or.inl ⟨by rfl, ?_⟩) (by assumption) (fun h => by first | assumption | exact absurd (h : true = false) (by decide)) ?_
  rotate_left
  · intro w hSw; (try dsimp only at hSw); (try go_simp); (try with_reducible rfl)
  try simp only [Act.put, List.setIfInBounds_toArray, List.set_cons_zero, List.set_cons_succ]
  refine until_s0 4 (v := ?_) rfl (by kernel_rfl) (fun _ _ _ h => h) (Or.inl ⟨by rfl, ?_⟩) (by assumption) (fun h => by first | assumption | exact absurd (h : true = false) (by decide)) ?_
  rotate_left
  · intro w hSw; (try dsimp only at hSw); (try go_simp); (try with_reducible rfl)
  try simp only [Act.put, List.setIfInBounds_toArray, List.set_cons_zero, List.set_cons_succ]
  refine until_s0 5 (v := ?_) rfl (by kernel_rfl) (fun _ _ _ h => h) (Or.inl ⟨by rfl, ?_⟩) (by assumption) (fun h => by first | assumption | exact absurd (h : true = false) (by decide)) ?_
  rotate_left
  · intro w hSw; (try dsimp only at hSw); (try go_simp); (try with_reducible rfl)
  try simp only [Act.put, List.setIfInBounds_toArray, List.set_cons_zero, List.set_cons_succ]
  refine until_s0 6 (v := ?_) rfl (by kernel_rfl) (fun _ _ _ h => h) (Or.inl ⟨by rfl, ?_⟩) (by assumption) (fun h => by first | assumption | exact absurd (h : true = false) (by decide)) ?_
  rotate_left
  · intro w hSw; (try dsimp only at hSw); (try go_simp); (try with_reducible rfl)
  try simp only [Act.put, List.setIfInBounds_toArray, List.set_cons_zero, List.set_cons_succ]
  refine until_sole 7 rfl (by kernel_rfl) (by rfl) ?_
  intro K' hK
  have hx3 : (List.replicate 33 (Value.int .u8 0)).toArray.size = (Value.int .u8 (bt x) :: byteCells V).toArray.size := by simp [byteCells_length, hVl]
  refine wp_store_row 66 _ _ rfl p (Value.int .u8 (bt x) :: byteCells V).toArray rfl rfl _ _ A0.drew.out hi3 hx3 (pt_one _ _) ?_
  have A0a := A0.drew.setRow (Value.int .u8 (bt x) :: byteCells V).toArray
  have A1a := A1.drew.setRow_other (show p + 1 ≠ p by omega) (Value.int .u8 (bt x) :: byteCells V).toArray
  have A3a := A3.drew.setRow_other (Ne.symm hpq) (Value.int .u8 (bt x) :: byteCells V).toArray
  have s1 := hld _ A3a
  refine hK _ _ s1 (fun _ => trivial) ?_
  clear hK s0
  skip
  refine until_sole 8 rfl (by kernel_rfl) (by rfl) ?_
  intro K' hK
  refine wp_store_row 69 _ _ rfl (p + 1) #[.int .i64 k.toNat, .string J] rfl rfl _ _ A1a.out hi2 rfl (kin_one _ _) ?_
  have A0b := A0a.setRow_other (show p ≠ p + 1 by omega) #[.int .i64 k.toNat, .string J]
  have A1b := A1a.setRow #[.int .i64 k.toNat, .string J]
  have A3b := A3a.setRow_other (Ne.symm hpq1) #[.int .i64 k.toNat, .string J]
  have s2 := hld _ A3b
  refine hK _ _ s2 (fun _ => trivial) ?_
  clear hK s1
  have hF := hF.new (S := [p, p + 1]) (((Fr.setRow _ W3 p (Value.int .u8 (bt x) :: byteCells V).toArray (.inl (by simp))).trans (Fr.setRow _ _ (p + 1) #[.int .i64 k.toNat, .string J] (.inl (by simp)))).trans (Fr.drew _ _)) (by intro x hx; simp at hx; omega)
  refine until_s0 9 (v := ?_) rfl (by kernel_rfl) (fun _ _ _ h => h) (Or.inl ⟨by rfl, ?_⟩) (by assumption) (fun h => by first | assumption | exact absurd (h : true = false) (by decide)) ?_
  rotate_left
  · intro w hSw; (try dsimp only at hSw); (try go_simp); (try with_reducible rfl)
  try simp only [Act.put, List.setIfInBounds_toArray, List.set_cons_zero, List.set_cons_succ]
  refine until_done (by kernel_rfl) ?_ _
  go_wp2_with fail
  have A0c := ((A0.setRow (Value.int .u8 (bt x) :: byteCells V).toArray).setRow_other (show p ≠ p + 1 by omega) #[.int .i64 k.toNat, .string J]).drew
  have A1c := ((A1.setRow_other (show p + 1 ≠ p by omega) (Value.int .u8 (bt x) :: byteCells V).toArray).setRow #[.int .i64 k.toNat, .string J]).drew
  rw [← HVJ.out.1]
  refine ⟨rfl, _, results_ccs rfl _ _ p (p + 1) _ _ _ _ _ _ _ _ rfl A0c.out Tryd.underlying66 rfl hi3 rfl A1c.out Tryd.underlying69 rfl hi2, rfl, hF⟩
end Go.Proofs.YtffhfmaphjjffaaDoor
