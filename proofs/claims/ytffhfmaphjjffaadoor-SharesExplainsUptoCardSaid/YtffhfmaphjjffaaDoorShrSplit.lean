/- Split of the program. -/
import Derived.Test.YtffhfmaphjjffaaDoorShrRows
import Derived.Test.YtffhfmaphjjffaaDoorUntil
import Derived.Deep.MidRow
namespace Go.Proofs.YtffhfmaphjjffaaDoor
open Go.RowKit Go.Lib Go.Joins Base Gf
set_option linter.unusedVariables false
set_option linter.unusedSimpArgs false

theorem ofNat_wrap (i : Nat) (h : i ≤ 255) : IntKind.u8.wrap (i : Int) = bt (UInt8.ofNat i) := by
  rw [wrap8_nat _ (by omega)]; unfold bt; simp; omega
theorem bt_ofNat (i : Nat) (h : i ≤ 255) : bt (UInt8.ofNat i) = (i : Int) := by
  unfold bt; simp; omega
def tcells (ps : List ByteArray) : List Value := ps.map Value.string
theorem tcells_len (ps : List ByteArray) : (tcells ps).length = ps.length := by simp [tcells]
theorem tcells_one (ps : List ByteArray) : ∀ v ∈ tcells ps, v.oneCell' = true := by
  intro v hv; obtain ⟨x, _, rfl⟩ := List.mem_map.1 hv; rfl
theorem tcells_app (a b : List ByteArray) : tcells (a ++ b) = tcells a ++ tcells b := by simp [tcells]
/-- make([]string, 0, n). -/
theorem run_mkT {P : Program} {t e : TypeId} (ht : P.underlying t = some (.slice e)) (hi : (P.info? e).map (fun i => (i.zero, i.size, i.bytes)) = some (some (.string ⟨#[]⟩), 1, 16)) (n : Nat) (hn : n ≤ 1048576) (w : World) :
    (Instr.makeSlice t (.int .i64 0) (.int .i64 n)).run P w = .ok (.slice (some ⟨w.heap.size, 0, none⟩) 0 n) (w.alloc (.cells (tcells (List.replicate n ⟨#[]⟩)).toArray e)) := by
  obtain ⟨i, hi, hz0, hz1, hz2⟩ := info_parts hi
  have := run_make w t e i (.string ⟨#[]⟩) ht hi hz0 .i64 .i64 0 n (by omega) (by omega) (by rw [hz2]; omega) (by omega)
  rw [hz1] at this
  have e2 : madeCells (Value.string ⟨#[]⟩).cells (n * 1) = (tcells (List.replicate n ⟨#[]⟩)).toArray := by
    apply Array.ext
    · simp [madeCells, tcells]
    · intro k h1 h2; simp [madeCells, Value.cells, Nat.mod_one, tcells]
  rw [Int.toNat_natCast, e2] at this
  exact this
/-- append of one text to a list that has room. -/
theorem run_appT {P : Program} {t e : TypeId} (ht : P.underlying t = some (.slice e)) (hi : (P.info? e).map (fun i => (i.zero, i.size, i.bytes)) = some (some (.string ⟨#[]⟩), 1, 16)) (ty : TypeId) (w : World) (g n c h' : Nat) (xs : List ByteArray) (s : ByteArray) (r : Value) (rest : List Value) (T : TypeId)
    (hg : At w g e (tcells xs ++ r :: rest)) (hh : At w h' T [.string s]) (hn : n = xs.length) (hroom : n + 1 ≤ c) :
    (Builtin.append_ #[t, t] ty #[.slice (some ⟨g, 0, none⟩) n c, .slice (some ⟨h', 0, none⟩) 1 1]).run P w = .ok (.slice (some ⟨g, 0, none⟩) (n + 1) c) (w.setRow g (tcells (xs ++ [s]) ++ rest).toArray) := by
  subst hn
  obtain ⟨i, hi, hz0, hz1, hz2⟩ := info_parts hi
  have := run_append_room (P := P) w t ty e i ht hi g xs.length c _ hg.out ⟨h', 0, none⟩ 1 1 (tcells [s]) (by rw [tcells_len, hz1]; rfl) (by
    intro j u hj
    rw [addr_add', hh.cell, Nat.zero_add]; exact hj) (tcells_one _) hroom (by rw [hz1, tcells_len]; simp [tcells_len])
  rw [this, hz1, tcells_len, Nat.mul_one]
  congr 2
  have e1 : List.take xs.length (tcells xs ++ r :: rest) = tcells xs := by
    rw [← tcells_len xs, List.take_left]
  have e2 : List.drop (xs.length + [s].length) (tcells xs ++ r :: rest) = rest := by
    rw [← List.drop_drop, ← tcells_len xs, List.drop_left]; rfl
  rw [List.toList_toArray, e1, e2, tcells_app]

/-- A whole row read, as an operation: by what the variable's reading gives. -/
theorem exec_load {P : Program} {o : Oper} {ev : Operand → Value} {ty : TypeId} {x : Operand} {a : Addr} {v : Value} {w : World} (ho : o.op = .load ty x) (hx : ev x = .pointer (some a)) (h : (loadVar ty a).run P w = .ok v w) :
    (execOp ev o).run P w = .ok (.value v) w := by
  unfold execOp
  simp only [ho, hx, Instr.loadAt, Instr.sureAddr, Sem.run_bind, Sem.run_pure, Result.andThen_ok, h]
/-- A row laid into a struct's cells, one by one. -/
theorem foldl_row : ∀ (l : List Value) (k : Nat) (A : Array Value), 1 + k + l.length ≤ A.size → (l.zipIdx k).foldl (fun cs (x : Value × Nat) => cs.setIfInBounds (1 + x.snd) x.fst) A = (A.toList.take (1 + k) ++ l ++ A.toList.drop (1 + k + l.length)).toArray
  | [], k, A, h => by simp
  | v :: r, k, A, h => by
    have ih := foldl_row r (k + 1) (A.setIfInBounds (1 + k) v) (by simp at h ⊢; omega)
    rw [List.zipIdx_cons, List.foldl_cons, ih, Array.toList_setIfInBounds]
    have hl : 1 + k < A.toList.length := by simp at h ⊢; omega
    have e1 : (A.toList.set (1 + k) v).take (1 + (k + 1)) = A.toList.take (1 + k) ++ [v] := by
      rw [show 1 + (k + 1) = (1 + k) + 1 by omega, List.take_add_one, List.take_set_of_le (Nat.le_refl _), List.getElem?_set_self hl]; rfl
    have e2 : (A.toList.set (1 + k) v).drop (1 + (k + 1) + r.length) = A.toList.drop (1 + k + (v :: r).length) := by
      rw [List.drop_set_of_lt (by omega)]; congr 1; simp; omega
    rw [e1, e2]; simp
theorem foldl_point (v : Value) (X : List UInt8) (h : X.length = 32) : List.foldl (fun cs (x : Value × Nat) => cs.setIfInBounds (1 + x.snd) x.fst) #[v, Value.int IntKind.u8 0, Value.int IntKind.u8 0, Value.int IntKind.u8 0, Value.int IntKind.u8 0, Value.int IntKind.u8 0, Value.int IntKind.u8 0, Value.int IntKind.u8 0, Value.int IntKind.u8 0, Value.int IntKind.u8 0, Value.int IntKind.u8 0, Value.int IntKind.u8 0, Value.int IntKind.u8 0, Value.int IntKind.u8 0, Value.int IntKind.u8 0, Value.int IntKind.u8 0, Value.int IntKind.u8 0, Value.int IntKind.u8 0, Value.int IntKind.u8 0, Value.int IntKind.u8 0, Value.int IntKind.u8 0, Value.int IntKind.u8 0, Value.int IntKind.u8 0, Value.int IntKind.u8 0, Value.int IntKind.u8 0, Value.int IntKind.u8 0, Value.int IntKind.u8 0, Value.int IntKind.u8 0, Value.int IntKind.u8 0, Value.int IntKind.u8 0, Value.int IntKind.u8 0, Value.int IntKind.u8 0, Value.int IntKind.u8 0] (byteCells X).zipIdx = #[v] ++ (byteCells X).toArray := by
  rw [foldl_row (byteCells X) 0 _ (by simp [byteCells_length, h])]
  apply Array.toList_inj.1
  rw [byteCells_length, h]
  simp

def splitB (master id coins : List UInt8) (n k : Nat) : List ByteArray := (List.range n).map fun i => ⟨(shareS master id coins k i).toArray⟩
theorem splitB_len (master id coins : List UInt8) (n k : Nat) : (splitB master id coins n k).length = n := by simp [splitB]
theorem splitB_succ (master id coins : List UInt8) (n k : Nat) : splitB master id coins (n + 1) k = splitB master id coins n k ++ [⟨(shareS master id coins k n).toArray⟩] := by
  simp [splitB, List.range_succ]

set_option maxRecDepth 100000 in
set_option maxHeartbeats 4000000 in
theorem split_any (master id coins : ByteArray) (N K : Nat) (hm : master.size = 32) (hid : id.size = 8) (h1 : 1 ≤ K) (h2 : K ≤ N) (h3 : N ≤ 16) (hc : coins.size = 32 * (K - 1)) (w : World) (hI : First w) (hR : Roots w) :
    Calls Tryd.prog 11 #[.string master, .int .i64 N, .int .i64 K, .string id, .string coins] w fun e w' => ∃ g, e = .returned (.tuple #[.slice (some ⟨g, 0, none⟩) N N, .int .i64 0]) ∧ w.heap.size ≤ g ∧ At w' g 9 (tcells (splitB master.data.toList id.data.toList coins.data.toList N K)) ∧ Fr [] w w' := by
  have hi5 : (Tryd.prog.info? 9).map (fun i => (i.zero, i.size, i.bytes)) = some (some (.string ⟨#[]⟩), 1, 16) := by kernel_rfl
  have b1 : ¬ (K : Int) < 1 := by omega
  have b2 : ¬ (N : Int) < K := by omega
  have b3 : ¬ (16 : Int) < N := by omega
  have b4 : ((coins.size : Int) != ((K : Int) - 1) * 32) = false := by
    have : (coins.size : Int) = ((K : Int) - 1) * 32 := by omega
    simp [this]
  have k1 : ¬ 9223372036854775807 < master.size + coins.size := by omega
  have k2 : ¬ 9223372036854775807 < 32 + coins.size := by omega
  obtain ⟨M, hM⟩ : ∃ M : ByteArray, M = master ++ coins := ⟨_, rfl⟩
  obtain ⟨C, hC⟩ : ∃ C, C = master.data.toList ++ coins.data.toList := ⟨_, rfl⟩
  have hMd : M.data.toList = C := by rw [hM, hC, ByteArray.data_append, Array.toList_append]
  have hMs : M.size = 32 * K := by rw [hM, ByteArray.size_append]; omega
  have cR := rows_any M K hMs (by omega)
  have hCl : C.length = 32 * K := by rw [← hMd]; simpa using hMs
  rw [hMd] at cR
  obtain ⟨P, hP⟩ : ∃ P : Nat → List ByteArray, P = fun i => splitB master.data.toList id.data.toList coins.data.toList i K := ⟨_, rfl⟩
  have hP0 : P 0 = [] := by rw [hP]; rfl
  have hPl : ∀ i, (P i).length = i := fun i => by rw [hP]; exact splitB_len _ _ _ _ _
  have hPs : ∀ i, P (i + 1) = P i ++ [⟨(textS (UInt8.ofNat (i + 1)) (UInt8.ofNat K) id.data.toList (horR (rowsL C K) (UInt8.ofNat (i + 1)))).toArray⟩] := fun i => by rw [hP, hC]; exact splitB_succ _ _ _ _ _
  have hPN : splitB master.data.toList id.data.toList coins.data.toList N K = P N := by rw [hP]
  rw [hPN]
  have hrow : ∀ r, r < K → ((byteCells C).drop (32 * r)).take 32 = byteCells ((rowsL C K).getD r []) := fun r hr => by
    have : (rowsL C K).getD r [] = (C.drop (32 * r)).take 32 := by simp [rowsL, List.getD, hr]
    rw [this]; simp [byteCells, List.map_drop, List.map_take]
  have hrl : ∀ r ∈ rowsL C K, r.length = 32 := rowsL_row C K (by omega)
  have hrn := rowsL_len C K
  obtain ⟨R, hR0⟩ : ∃ R, R = rowsL C K := ⟨_, rfl⟩
  rw [← hR0] at hrow hrl hrn
  simp only [← hR0] at hPs
  have wK : IntKind.u8.wrap (K : Int) = bt (UInt8.ofNat K) := ofNat_wrap K (by omega)
  have cT := fun (x : UInt8) (V : List UInt8) (hV : V.length = 32) => text_any x (UInt8.ofNat K) K id V hid hV wK
  have hmkT := run_mkT (P := Tryd.prog) Tryd.underlying22 hi5 N (by omega)
  have HB := Lib.hid (And.intro h1 (And.intro h2 (And.intro h3 hid)))
  have HM := Lib.hid hM
  have HP := Lib.hid (And.intro hP0 (And.intro hPl hPs))
  have HR := Lib.hid (And.intro hrow (And.intro hrl hrn))
  have HC := Lib.hid hCl
  clear hc hMd hMs hCl hP hP0 hPl hPs hPN hrow hrl hrn hR0 wK hC h1 h2 h3
  have eM := HM.out
  clear hM
  go_enter Tryd.func11, Tryd.ntmps11
  go_wp2_with (first
    | (go_at_call 30; rw [← HM.out]; refine (cR _).mono ?_; clear cR eM; rintro e w1 ⟨gc, rfl, hgc, hC1, f1⟩)
    | fail)
  clear hm k1 k2 b4
  obtain ⟨g, hg⟩ : ∃ g, g = w1.heap.size := ⟨_, rfl⟩
  obtain ⟨W, hW⟩ : ∃ W, W = w1.alloc (.cells (tcells (List.replicate N ⟨#[]⟩)).toArray 9) := ⟨_, rfl⟩
  have A0 := At.alloc_new w1 9 (tcells (List.replicate N ⟨#[]⟩)).toArray
  rw [← hW, ← hg, List.toList_toArray] at A0
  have hC2 : At W gc 63 (byteCells C) := by rw [hW]; exact hC1.alloc _
  have hFW : Fr [] w W := by rw [hW]; exact f1.trans (Fr.alloc _ _ _)
  have hgw : w.heap.size ≤ g ∧ gc ≠ g := ⟨by rw [hg]; exact f1.size, by have := hC1.lt; omega⟩
  rw [← hW, ← hg]
  have HG := Lib.hid hgw
  clear hgw hW hg hmkT hC1 f1
  go_loopw [13, 14, 15, 16] (fun v13 v14 _ _ wr => ∃ i : Nat, i ≤ N ∧ v14 = .int .u8 (bt (UInt8.ofNat (i + 1))) ∧ v13 = .slice (some ⟨g, 0, none⟩) i N ∧ At wr g 9 (tcells (P i) ++ tcells (List.replicate (N - i) ⟨#[]⟩)) ∧ At wr gc 63 (byteCells C) ∧ Fr [] w wr) (fun _ v _ _ _ => 17 - (intOf v).toNat)
  case atStart => exact ⟨0, by omega, rfl, rfl, by rw [HP.out.1]; simpa [tcells] using A0, hC2, hFW⟩
  case round =>
    clear A0 hC2 hFW
    obtain ⟨i, hi, rfl, rfl, hA, hC, hF⟩ := hrel
    obtain ⟨hK1, hKN, hN16, hid8⟩ := HB.out
    obtain ⟨x, hx⟩ : ∃ x, x = UInt8.ofNat (i + 1) := ⟨_, rfl⟩
    have hxb : bt x = (i : Int) + 1 := by rw [hx, bt_ofNat _ (by omega)]; omega
    rw [← hx]
    by_cases hl : i < N
    · have l1 : bt x ≤ (N : Int) := by omega
      obtain ⟨y, hy⟩ : ∃ y, y = UInt8.ofNat (i + 1 + 1) := ⟨_, rfl⟩
      have hyb : bt y = (i : Int) + 2 := by rw [hy, bt_ofNat _ (by omega)]; omega
      have r5 : ∀ t, binOp .add t (.int .u8 (bt x)) (.int .u8 1) = pure (.int .u8 (bt y)) := fun t => by
        rw [binOp_add]
        show pure (Value.int .u8 (IntKind.u8.wrap (bt x + 1))) = _
        rw [hxb, show (i : Int) + 1 + 1 = ((i + 1 + 1 : Nat) : Int) by omega, ofNat_wrap _ (by omega), ← hy]
      have HY := Lib.hid (And.intro hy hyb)
      clear hy hyb
      have HX := Lib.hid (And.intro hx hxb)
      have l0 : (K : Int) - 1 = ((K - 1 : Nat) : Int) := by omega
      clear hx hxb
      have Z0 := At.alloc_new wr 63 (List.replicate 32 (Value.int IntKind.u8 0)).toArray
      have FZ := Fr.alloc [] wr (.cells (List.replicate 32 (Value.int IntKind.u8 0)).toArray 63)
      clear l0
      go_wp2_with fail
      rw [show (#[Value.int IntKind.u8 0, Value.int IntKind.u8 0, Value.int IntKind.u8 0, Value.int IntKind.u8 0, Value.int IntKind.u8 0, Value.int IntKind.u8 0, Value.int IntKind.u8 0, Value.int IntKind.u8 0, Value.int IntKind.u8 0, Value.int IntKind.u8 0, Value.int IntKind.u8 0, Value.int IntKind.u8 0, Value.int IntKind.u8 0, Value.int IntKind.u8 0, Value.int IntKind.u8 0, Value.int IntKind.u8 0, Value.int IntKind.u8 0, Value.int IntKind.u8 0, Value.int IntKind.u8 0, Value.int IntKind.u8 0, Value.int IntKind.u8 0, Value.int IntKind.u8 0, Value.int IntKind.u8 0, Value.int IntKind.u8 0, Value.int IntKind.u8 0, Value.int IntKind.u8 0, Value.int IntKind.u8 0, Value.int IntKind.u8 0, Value.int IntKind.u8 0, Value.int IntKind.u8 0, Value.int IntKind.u8 0, Value.int IntKind.u8 0] : Array Value) = (List.replicate 32 (Value.int IntKind.u8 0)).toArray from rfl]
      obtain ⟨vb, hvb⟩ : ∃ vb, vb = wr.heap.size := ⟨_, rfl⟩
      obtain ⟨V, hV⟩ : ∃ V, V = wr.alloc (.cells (List.replicate 32 (Value.int IntKind.u8 0)).toArray 63) := ⟨_, rfl⟩
      have hAV : At V g 9 (tcells (P i) ++ tcells (List.replicate (N - i) ⟨#[]⟩)) := by rw [hV]; exact hA.alloc _
      have hCV : At V gc 63 (byteCells C) := by rw [hV]; exact hC.alloc _
      rw [← hV, ← hvb] at Z0
      rw [← hV] at FZ ⊢
      rw [← hvb]
      have hFV : Fr [] w V := hF.trans FZ
      have HV : Hid (w.heap.size ≤ vb ∧ vb ≠ g ∧ vb ≠ gc) := Lib.hid ⟨by rw [hvb]; exact hF.size, by have := hA.lt; omega, by have := hC.lt; omega⟩
      have hrn := HR.out.2.2
      clear hV hvb FZ hA hC hF
      go_loopw [16] (fun v16 wq => ∃ r : Nat, r ≤ K ∧ v16 = .int .i64 ((r : Int) - 1) ∧ At wq vb 63 (byteCells (horR (R.drop r) x)) ∧ At wq g 9 (tcells (P i) ++ tcells (List.replicate (N - i) ⟨#[]⟩)) ∧ At wq gc 63 (byteCells C) ∧ Fr [] w wq) (fun v _ => (intOf v + 1).toNat)
      case atStart => exact ⟨K, Nat.le_refl _, rfl, by rw [List.drop_of_length_le (by omega)]; exact Z0, hAV, hCV, hFV⟩
      case round =>
        clear Z0 hAV hCV hFV
        obtain ⟨r, hr, rfl, hZ, hA, hC, hF⟩ := hrel
        have hlen := HR.out.2.1
        have hszA : ∀ X : List UInt8, X.length = 32 → (Tryd.prog.info? 63).map (·.size) = some (byteCells X).toArray.size := fun X h => by
          rw [List.size_toArray, byteCells_length, h]; kernel_rfl
        by_cases hr0 : r = 0
        · subst hr0
          rw [List.drop_zero] at hZ
          have hVl : (horR R x).length = 32 := horR_len _ _ hlen
          have hsz := hszA _ hVl
          have cTx := cT x (horR R x) hVl
          have hps := HP.out.2.2 i
          rw [← HX.out.1] at hps
          obtain ⟨S, hS⟩ : ∃ S : ByteArray, S = ⟨(textS x (UInt8.ofNat K) id.data.toList (horR R x)).toArray⟩ := ⟨_, rfl⟩
          rw [← hS] at hps cTx
          have HPS := Lib.hid hps
          have hpl := HP.out.2.1 i
          have hrep : tcells (List.replicate (N - i) ⟨#[]⟩) = Value.string ⟨#[]⟩ :: tcells (List.replicate (N - (i + 1)) ⟨#[]⟩) := by
            rw [show N - i = (N - (i + 1)) + 1 by omega, List.replicate_succ]; rfl
          rw [hrep] at hA
          have HL := Lib.hid hpl
          have HVL := Lib.hid hVl
          have hbX : (byteCells (horR R x)).toArray.size = 32 := by simp [byteCells_length, hVl]
          clear hlen hszA hps hS hVl hpl hrep hrn
          generalize horR R x = X at hZ hsz cTx HVL hbX
          go_wp2_with (first
            | refine wpList_load_row rfl _ _ rfl _ rfl _ _ _ _ hZ.out Tryd.underlying63 rfl hsz ?_
            | (go_at_call 32; rw [foldl_point _ X HVL.out]; refine (cTx _ (hI.keep hF) (hR.keep hF (by simp))).mono ?_; clear cTx; rintro e w7 ⟨rfl, f7⟩; have hA7 := (f7.keep hA (by simp)).alloc (.cells #[.string S] 9); have hC7 := f7.keep hC (by simp); have hF7 := hF.trans f7; have hB7 := At.alloc_new w7 9 #[.string S])
            | refine wpList_append_run rfl _ _ _ rfl _ _ _ _ rfl rfl (run_appT (P := Tryd.prog) Tryd.underlying22 hi5 _ _ g i N w7.heap.size (P i) S _ _ 9 hA7 hB7 HL.out.symm (by omega)) ?_
            | fail)
          have HG2 := HG.out
          refine ⟨⟨i + 1, by omega, by rw [HY.out.1], rfl, ?_, ?_, ?_⟩, ?_⟩
          · rw [HPS.out]
            have := hA7.setRow (tcells (P i ++ [S]) ++ tcells (List.replicate (N - (i + 1)) ⟨#[]⟩)).toArray
            rwa [List.toList_toArray] at this
          · exact (hC7.alloc _).setRow_other HG2.2 _
          · exact (hF7.trans (Fr.alloc _ _ _)).new (S := [g]) (Fr.setRow _ _ _ _ (.inl (by simp))) (by simp; exact HG2.1)
          · simp only [intOf]; rw [HX.out.2, HY.out.2]; omega
        · obtain ⟨q, rfl⟩ : ∃ q, r = q + 1 := ⟨r - 1, by omega⟩
          rw [show ((q + 1 : Nat) : Int) - 1 = (q : Int) by omega]
          have hqK : q < K := by omega
          have l2 : (q : Int) < K := by omega
          obtain ⟨rq, hrq⟩ : ∃ rq, rq = R.getD q [] := ⟨_, rfl⟩
          have hrl : rq.length = 32 := by rw [hrq]; simp only [List.getD, List.getElem?_eq_getElem (show q < R.length by omega), Option.getD_some]; exact hlen _ (List.getElem_mem _)
          have hrow := HR.out.1 q hqK
          rw [← hrq] at hrow
          have hdr : R.drop q = rq :: R.drop (q + 1) := by rw [List.drop_eq_getElem_cons (by omega)]; congr 1; rw [hrq]; simp [List.getD, show q < R.length by omega]
          have hhor : horR (R.drop q) x = plusR rq (horR (R.drop (q + 1)) x) x := by rw [hdr]; rfl
          have hOl : (horR (R.drop (q + 1)) x).length = 32 := horR_len _ _ (fun r hr => hlen r (List.mem_of_mem_drop hr))
          have hXl : (horR (R.drop q) x).length = 32 := horR_len _ _ (fun r hr => hlen r (List.mem_of_mem_drop hr))
          have cP := plus_any rq (horR (R.drop (q + 1)) x) x hrl hOl
          rw [← hhor] at cP
          have hsO := hszA _ hOl
          have hsX := hszA _ hXl
          have hsr := hszA _ hrl
          have hold : (byteCells (horR (R.drop (q + 1)) x)).toArray.size = (byteCells (horR (R.drop q) x)).toArray.size := by simp [byteCells_length, hOl, hXl]
          have hall : (byteCells (horR (R.drop q) x)).toArray.all (·.oneCell') = true := all_oneCell_toArray (byteCells_one _)
          have ld1 : ∀ w', At w' gc 63 (byteCells C) → (loadVar 63 ⟨gc, q * 32, none⟩).run Tryd.prog w' = .ok (.agg (byteCells rq).toArray) w' := fun w' h => by
            refine run_loadVar_mid (P := Tryd.prog) w' gc (q * 32) 63 (byteCells rq) _ ?_ Tryd.underlying63 rfl (by rw [byteCells_length, hrl]; kernel_rfl)
            intro j v hj
            have hj32 : j < 32 := by
              rcases Nat.lt_or_ge j 32 with h' | h'
              · exact h'
              · rw [List.getElem?_eq_none (by rw [byteCells_length]; omega)] at hj; cases hj
            rw [h.cell, ← hj, ← hrow, List.getElem?_take, if_pos hj32, List.getElem?_drop, Nat.mul_comm]
          have ld2 : ∀ w', At w' vb 63 (byteCells (horR (R.drop (q + 1)) x)) → (loadVar 63 ⟨vb, 0, none⟩).run Tryd.prog w' = .ok (.agg (byteCells (horR (R.drop (q + 1)) x)).toArray) w' := fun w' h =>
            run_loadVar_row (P := Tryd.prog) w' vb 63 63 _ _ _ h.out Tryd.underlying63 rfl hsO
          clear hlen hszA hrq hrl hrow hdr hhor hOl hXl hsO hsr hrn
          generalize horR (R.drop (q + 1)) x = O at hZ cP hold ld2
          generalize hXX : horR (R.drop q) x = X at cP hsX hold hall
          have HXX := Lib.hid hXX
          clear hXX
          go_wp2_with fail
          refine wp_region_until (fun w' => At w' gc 63 (byteCells C) ∧ (loadVar 63 ⟨gc, q * 32, none⟩).run Tryd.prog w' = .ok (.agg (byteCells rq).toArray) w') (fun w' => At w' vb 63 (byteCells O) ∧ (loadVar 63 ⟨vb, 0, none⟩).run Tryd.prog w' = .ok (.agg (byteCells O).toArray) w') 7 (by rfl) ?_
          have hT : True := trivial
          have s0 : At wr.drew gc 63 (byteCells C) ∧ (loadVar 63 ⟨gc, q * 32, none⟩).run Tryd.prog wr.drew = .ok (.agg (byteCells rq).toArray) wr.drew := ⟨hC.drew, ld1 _ hC.drew⟩
          have s1 : At wr.drew vb 63 (byteCells O) ∧ (loadVar 63 ⟨vb, 0, none⟩).run Tryd.prog wr.drew = .ok (.agg (byteCells O).toArray) wr.drew := ⟨hZ.drew, ld2 _ hZ.drew⟩
          have s1' := fun (_ : (false = false)) => s1
          refine until_s0 0 (v := ?_) rfl (by kernel_rfl) (fun _ _ _ h => h) (Or.inl ⟨by rfl, ?_⟩) (by assumption) (fun h => by first | assumption | exact absurd (h : true = false) (by decide)) ?_
          rotate_left
          · intro w hSw; (try dsimp only at hSw); (try go_simp); (try with_reducible rfl)
          try simp only [Act.put, List.setIfInBounds_toArray, List.set_cons_zero, List.set_cons_succ]
          refine until_s0 1 (v := ?_) rfl (by kernel_rfl) (fun _ _ _ h => h) (Or.inl ⟨by rfl, ?_⟩) (by assumption) (fun h => by first | assumption | exact absurd (h : true = false) (by decide)) ?_
          rotate_left
          · intro w hSw; (try dsimp only at hSw); (try go_simp); (try with_reducible rfl)
          try simp only [Act.put, List.setIfInBounds_toArray, List.set_cons_zero, List.set_cons_succ]
          refine until_s0 2 (v := ?_) rfl (by kernel_rfl) (fun _ _ _ h => h) (Or.inl ⟨by rfl, ?_⟩) (by assumption) (fun h => by first | assumption | exact absurd (h : true = false) (by decide)) ?_
          rotate_left
          · intro w hSw; (try dsimp only at hSw); (try go_simp); (try with_reducible rfl)
          try simp only [Act.put, List.setIfInBounds_toArray, List.set_cons_zero, List.set_cons_succ]
          refine until_s0 5 (v := ?_) rfl (by kernel_rfl) (fun _ _ _ h => h) (Or.inl ⟨by rfl, ?_⟩) (by assumption) (fun h => by first | assumption | exact absurd (h : true = false) (by decide)) ?_
          rotate_left
          · intro w hSw; (try dsimp only at hSw); (try go_simp); (try with_reducible rfl)
          try simp only [Act.put, List.setIfInBounds_toArray, List.set_cons_zero, List.set_cons_succ]
          refine until_s0 3 (v := .agg (byteCells rq).toArray) rfl (by kernel_rfl) (fun _ _ _ h => h) (Or.inl ⟨by rfl, fun w' hS => exec_load rfl rfl hS.2⟩) (by assumption) (fun h => by first | assumption | exact absurd (h : true = false) (by decide)) ?_
          simp only [Act.put, List.setIfInBounds_toArray, List.set_cons_zero, List.set_cons_succ]
          refine until_s1 4 (v := .agg (byteCells O).toArray) rfl (by kernel_rfl) (fun _ _ _ h => h) (Or.inl ⟨by rfl, fun w' hS => exec_load rfl rfl hS.2.2⟩) (by assumption) (fun h => by first | assumption | exact absurd (h : true = false) (by decide)) ?_
          simp only [Act.put, List.setIfInBounds_toArray, List.set_cons_zero, List.set_cons_succ]
          skip
          refine until_sole 6 rfl (by kernel_rfl) (by rfl) ?_
          intro K' hK
          go_simp
          go_at_call 31
          refine (cP _).mono ?_
          rintro _ w8 ⟨rfl, f8⟩
          go_wp2_with fail
          have f8 : Fr [] wr w8 := (Fr.drew _ _).trans f8
          have hC8 := f8.keep hC (by simp)
          have hZ8 := f8.keep hZ (by simp)
          have hA8 := f8.keep hA (by simp)
          have hF8 := hF.trans f8
          refine hK _ _ ⟨hC8, ld1 _ hC8⟩ (fun _ => ⟨hZ8, ld2 _ hZ8⟩) ?_
          clear hK s0 s1 s1'
          have s1 : At w8 vb 63 (byteCells O) ∧ (loadVar 63 ⟨vb, 0, none⟩).run Tryd.prog w8 = .ok (.agg (byteCells O).toArray) w8 := ⟨hZ8, ld2 _ hZ8⟩
          skip
          refine until_sole 7 rfl (by kernel_rfl) (by rfl) ?_
          intro K' hK
          refine wp_store_row _ _ _ rfl vb (byteCells X).toArray rfl rfl 63 _ hZ8.out hsX hold hall ?_
          have HV2 := HV.out
          have hC9 : At (w8.setRow vb (byteCells X).toArray) gc 63 (byteCells C) := hC8.setRow_other (Ne.symm HV2.2.2) _
          refine hK _ _ ⟨hC9, ld1 _ hC9⟩ (fun h => absurd h (by decide)) ?_
          clear hK
          refine until_done (by kernel_rfl) ?_ _
          go_wp2_with fail
          refine ⟨⟨q, by omega, rfl, ?_, hA8.setRow_other (Ne.symm HV2.2.1) _, hC9, hF8.new (S := [vb]) (Fr.setRow _ _ _ _ (.inl (by simp))) (by simp; exact HV2.1)⟩, by simp only [intOf]; omega⟩
          rw [HXX.out]
          have := hZ8.setRow (byteCells X).toArray
          rwa [List.toList_toArray] at this
    · obtain rfl : i = N := by omega
      have l1 : ¬ bt x ≤ (i : Int) := by omega
      rw [Nat.sub_self, List.replicate_zero] at hA
      have e0 : tcells (P i) ++ tcells [] = tcells (P i) := List.append_nil _
      rw [e0] at hA
      have HG2 := HG.out
      clear hxb hx
      go_wp2_with fail
      go_ret2
      exact ⟨g, rfl, HG2.1, hA, hF⟩
end Go.Proofs.YtffhfmaphjjffaaDoor
