/- take of the program: bytes come into a running sum. -/
import Derived.Test.YtkagmoaapampgaaDoorShaMix
import Derived.Test.YtkagmoaapampgaaDoorShaBig
namespace Go.Proofs.YtkagmoaapampgaaDoor
open Go.RowKit Go.Lib Base
set_option linter.unusedVariables false
set_option linter.unusedSimpArgs false

/-- copy of as many bytes of a string as there is room for. -/
theorem run_copy_cut {P : Program} (w : World) (dT sT ty elem : TypeId) (g o dLen dCap : Nat) (s : ByteArray) (cur : Array Value) (t : TypeId)
    (hu : P.underlying dT = some (.slice elem)) (hs : (P.info? elem).map (·.size) = some 1) (hg : w.heap[g]? = some (.cells cur t (0, 0))) (m : Nat) (hm : m = min s.size dLen) (hfit : o + m ≤ cur.size) :
    (Builtin.copy_ #[dT, sT] ty #[.slice (some ⟨g, o, none⟩) dLen dCap, .string s]).run P w =
      .ok (goInt m) (w.setRow g (cur.toList.take o ++ byteCells (s.data.toList.take m) ++ cur.toList.drop (o + m)).toArray) := by
  have hlen : (byteCells (s.data.toList.take m)).length = m := by rw [byteCells_length, List.length_take, ← size_eq]; omega
  have hst := run_storeCells_at P g o t (byteCells (s.data.toList.take m)) 0 cur w hg (by rw [hlen]; simpa using hfit) (byteCells_one _)
  have hmin : Nat.min s.size dLen = m := hm.symm
  have htk : List.take m (List.map (fun b : UInt8 => Value.int IntKind.u8 (b.toNat : Int)) s.data.toList) = byteCells (s.data.toList.take m) := by
    rw [byteCells, List.map_take]
  rw [hlen] at hst
  simp only [Nat.add_zero] at hst
  cases hq : P.info? elem with
  | none => simp [hq] at hs
  | some i =>
    simp [Builtin.copy_, run_underlying hu, Builtin.lenOf, Builtin.firstCells, sizeOf, typeInfo, hq, hmin]
    rw [htk, hst]
    simp [Result.andThen]

theorem set_cut {α : Type} (A B vs : List α) (x v : α) : ((A ++ x :: B).set A.length v).take (A.length + 1) ++ vs ++ ((A ++ x :: B).set A.length v).drop (A.length + 1 + vs.length) = (A ++ x :: B).take A.length ++ (v :: vs) ++ (A ++ x :: B).drop (A.length + (v :: vs).length) := by
  have e1 : (A ++ x :: B).set A.length v = A ++ v :: B := by rw [List.set_append_right _ _ (Nat.le_refl _)]; simp
  rw [e1, List.take_length_add_append, Nat.add_assoc, List.drop_length_add_append, List.take_left, List.drop_length_add_append, List.length_cons, Nat.add_comm 1 vs.length]
  simp
theorem At.setCells {g : Nat} {T : TypeId} : ∀ (vs : List Value) (o : Nat) (w : World) (cs : List Value), At w g T cs → o + vs.length ≤ cs.length → At (w.setCells g o vs) g T (cs.take o ++ vs ++ cs.drop (o + vs.length))
  | [], o, w, cs, h, _ => by simpa [World.setCells] using h
  | v :: vs, o, w, cs, h, hl => by
    have h1 := h.setCell o v
    have h2 := At.setCells vs (o + 1) _ _ h1 (by simp at hl ⊢; omega)
    have hlt : o < cs.length := by simp at hl; omega
    have e : (cs.set o v).take (o + 1) ++ vs ++ (cs.set o v).drop (o + 1 + vs.length) = cs.take o ++ (v :: vs) ++ cs.drop (o + (v :: vs).length) := by
      have l1 : (cs.take o).length = o := by simp; omega
      have l2 : cs = cs.take o ++ cs[o] :: cs.drop (o + 1) := by rw [← List.drop_eq_getElem_cons hlt, List.take_append_drop]
      have := set_cut (cs.take o) (cs.drop (o + 1)) vs cs[o] v
      rw [← l2, l1] at this
      exact this
    rw [e] at h2
    exact h2
theorem Fr.setCells {g : Nat} {S : List Nat} (hS : g ∈ S) : ∀ (vs : List Value) (o : Nat) (w : World), Fr S w (w.setCells g o vs)
  | [], o, w => Fr.refl _ _
  | v :: vs, o, w => (Fr.setCell S w ⟨g, o, none⟩ v (.inl hS)).trans (Fr.setCells hS vs (o + 1) _)

/-- A running sum in block b: n bytes were taken, rest waits for the rest of its block. -/
def hcells (H : List UInt32) (tail : List UInt8) (n : Nat) : List Value := wcells H ++ byteCells tail ++ [.int .i64 n]
theorem hcells_copy (H : List UInt32) (t x : List UInt8) (n q : Nat) (hH : H.length = 8) (ht : t.length = 64) (hq : q + x.length ≤ 64) :
    (hcells H t n).take (8 + q) ++ byteCells x ++ (hcells H t n).drop (8 + q + x.length) = hcells H (t.take q ++ x ++ t.drop (q + x.length)) n := by
  unfold hcells
  have l1 : (wcells H).length = 8 := by rw [wcells_len, hH]
  have e1 : (wcells H ++ byteCells t ++ [Value.int .i64 n]).take (8 + q) = wcells H ++ byteCells (t.take q) := by
    rw [List.append_assoc, List.take_append, l1, List.take_of_length_le (by omega), show 8 + q - 8 = q by omega, List.take_append_of_le_length (by rw [byteCells_length]; omega)]
    simp [byteCells]
  have e2 : (wcells H ++ byteCells t ++ [Value.int .i64 n]).drop (8 + q + x.length) = byteCells (t.drop (q + x.length)) ++ [Value.int .i64 n] := by
    rw [List.append_assoc, List.drop_append, l1, List.drop_eq_nil_of_le (by omega), show 8 + q + x.length - 8 = q + x.length by omega, List.drop_append_of_le_length (by rw [byteCells_length]; omega)]
    simp [byteCells]
  rw [e1, e2]
  simp [byteCells]
def Hold (w : World) (b : Nat) (H : List UInt32) (rest : List UInt8) (n : Nat) : Prop :=
  b ≠ 1 ∧ H.length = 8 ∧ n % 64 = rest.length ∧ ∃ tail, tail.length = 64 ∧ tail.take rest.length = rest ∧ At w b 75 (hcells H tail n)
theorem state_range {w : World} {b : Nat} {T : TypeId} {H : List UInt32} {t : List UInt8} {n : Nat} (h : At w b T (hcells H t n)) : w.rangeAt b 0 (wcells H) := by
  intro j v hj
  rw [Nat.zero_add, h.cell, hcells, List.append_assoc, List.getElem?_append_left (by rcases Nat.lt_or_ge j (wcells H).length with h | h; exact h; rw [List.getElem?_eq_none h] at hj; cases hj)]
  exact hj
theorem state_there {w : World} {b : Nat} {T : TypeId} {H : List UInt32} {t : List UInt8} {n m : Nat} (h : At w b T (hcells H t n)) (hm : m ≤ (wcells H).length) : w.there b 0 m := by
  intro j hj
  rw [Nat.zero_add, h.cell, hcells, List.append_assoc, List.getElem?_append_left (by omega)]
  exact ⟨by simp; omega, h.frozen _⟩
def strSize : Value → Nat
  | .string s => s.size
  | _ => 0

set_option maxRecDepth 100000 in
set_option maxHeartbeats 1000000 in
theorem take_any (H : List UInt32) (rest : List UInt8) (n b : Nat) (d : ByteArray) (hn : n + d.size ≤ 4611686018427387904) (w : World) (hR : Roots w) (h : Hold w b H rest n) :
    Calls Tryd.prog 26 #[.pointer (some ⟨b, 0, none⟩), .string d] w fun e w' => e = .returned (.tuple #[]) ∧ Hold w' b (wordsOf H (rest ++ d.data.toList)) (restOf (rest ++ d.data.toList)) (n + d.size) ∧ Fr [b] w w' := by
  obtain ⟨hb, hH, hr, tail, htl, htk, hA⟩ := h
  obtain ⟨s, hs⟩ : ∃ s, s = rest ++ d.data.toList := ⟨_, rfl⟩
  have hsl : s.length = rest.length + d.size := by rw [hs]; simp
  have hrl : rest.length < 64 := by omega
  have hs0 : d.data.toList = s.drop rest.length := by rw [hs]; simp
  have htk0 : tail.take rest.length = s.take rest.length := by rw [hs, htk]; simp
  rw [← hs]
  have HS := Lib.hid hs0
  have hlen : ∀ (H : List UInt32) (t : List UInt8) (n : Nat), H.length = 8 → t.length = 64 → (hcells H t n)[72]? = some (.int .i64 n) := by
    intro H t n h1 h2
    unfold hcells
    rw [List.getElem?_append_right (by simp [wcells_len, byteCells_length]; omega)]
    simp [wcells_len, byteCells_length, h1, h2]
  have c72 := hA.cell 72
  rw [hlen _ _ _ hH htl] at c72
  have f72 := hA.frozen 72
  have hm : (n : Int).tmod 64 = (rest.length : Int) := by rw [Int.tmod_eq_emod_of_nonneg (by omega)]; omega
  have hw : IntKind.i64.wrap ((n : Int) + d.size) = ((n + d.size : Nat) : Int) := by rw [IntWalk.i64_in _ (by omega)]; omega
  have hset : (hcells H tail n).set 72 (.int .i64 ((n + d.size : Nat) : Int)) = hcells H tail (n + d.size) := by
    unfold hcells
    rw [List.set_append_right _ _ (by simp [wcells_len, byteCells_length]; omega)]
    simp [wcells_len, byteCells_length, hH, htl]
  have hset' := Lib.hid hset
  clear hset hs hs0 htk
  go_enter Tryd.func26, Tryd.ntmps26
  go_wp2_with fail
  have A1 := hA.setCell 72 (.int .i64 ((n + d.size : Nat) : Int))
  rw [hset'.out] at A1
  clear c72 f72 hm hw
  go_loopw [1, 4] (fun v1 v4 wr => ∃ (p : Nat) (dv : ByteArray) (tl : List UInt8), p ≤ s.length ∧ v1 = .string dv ∧ dv.data.toList = s.drop p ∧ v4 = .int .i64 (p % 64 : Nat) ∧ tl.length = 64 ∧ tl.take (p % 64) = (s.drop (64 * (p / 64))).take (p % 64) ∧ At wr b 75 (hcells (blocksL H s (p / 64)) tl (n + d.size)) ∧ Fr [b] w wr) (fun v _ _ => strSize v)
  case atStart =>
    refine ⟨rest.length, d, tail, by omega, rfl, HS.out, ?_, htl, ?_, ?_, ?_⟩
    · rw [Nat.mod_eq_of_lt hrl]
    · rw [Nat.mod_eq_of_lt hrl, Nat.div_eq_of_lt hrl, htk0]; rfl
    · rw [Nat.div_eq_of_lt hrl]; exact A1
    · exact Fr.setCell _ _ _ _ (.inl (by simp))
  case round =>
    clear hA htk0 A1
    obtain ⟨p, dv, tl, hp, rfl, hdv, rfl, hl, ht, hA, hF⟩ := hrel
    have hsz : dv.size = s.length - p := by have := congrArg List.length hdv; simpa using this
    by_cases hl0 : p < s.length
    · obtain ⟨q, hq⟩ : ∃ q, q = p % 64 := ⟨_, rfl⟩
      rw [← hq] at ht ⊢
      have hq64 : q < 64 := by omega
      obtain ⟨m, hm⟩ : ∃ m, m = min dv.size (64 - q) := ⟨_, rfl⟩
      have hm1 : m ≤ 64 - q := by omega
      have hm2 : m ≤ dv.size := by omega
      have hm0 : 0 < m := by omega
      obtain ⟨st1, st2⟩ := tail_step s tl p m hl0 (by omega) (by omega) hl (by rw [← hq]; exact ht)
      rw [← hq] at st1 st2
      have hSt := blocksL_len H s hH (p / 64)
      have hxl : (dv.data.toList.take m).length = m := by simp; omega
      have hcp : ∀ ty dcap, (Builtin.copy_ #[28, 9] ty #[.slice (some ⟨b, 8 + q, none⟩) (64 - q) dcap, .string dv]).run Tryd.prog wr = .ok (.int .i64 (m : Int)) (wr.setRow b (hcells (blocksL H s (p / 64)) (tl.take q ++ (s.drop p).take m ++ tl.drop (q + m)) (n + d.size)).toArray) := by
        intro ty dcap
        have := run_copy_cut (P := Tryd.prog) wr 28 9 ty 5 b (8 + q) (64 - q) dcap dv _ _ Tryd.underlying28 (by kernel_rfl) hA.out m hm (by simp [hcells, wcells_len, byteCells_length, hSt, hl]; omega)
        rw [this]
        have e := hcells_copy (blocksL H s (p / 64)) tl (dv.data.toList.take m) (n + d.size) q hSt hl (by omega)
        rw [hxl] at e
        rw [← hdv]
        rw [List.toList_toArray, e]; rfl
      have A2 := hA.setRow (hcells (blocksL H s (p / 64)) (tl.take q ++ (s.drop p).take m ++ tl.drop (q + m)) (n + d.size)).toArray
      rw [List.toList_toArray] at A2
      obtain ⟨t2, ht2⟩ : ∃ t2, t2 = tl.take q ++ (s.drop p).take m ++ tl.drop (q + m) := ⟨_, rfl⟩
      rw [← ht2] at st1 st2 hcp A2
      have k0 : (0 : Int) < dv.size := by omega
      have k1 : (q : Int) ≤ 64 := by omega
      have k2 : (m : Int) ≤ dv.size := by omega
      have hd2 : (dv.extract m dv.size).data.toList = s.drop (p + m) := by
        rw [extract_rest dv m dv.size rfl, hdv, List.drop_drop]
      have HD := Lib.hid hd2
      have HT := Lib.hid st2
      clear hd2 st2 ht ht2 hdv
      by_cases hf : q + m = 64
      · have w1 : IntKind.i64.wrap ((q : Int) + m) = 64 := by rw [IntWalk.i64_in _ (by omega)]; omega
        have HM := Lib.hid (And.intro hf hm)
        have HQ := Lib.hid (And.intro hq hsz)
        clear hm hxl hq hf hsz k2
        have k2 : (m : Int) ≤ dv.size := by omega
        go_wp2_with fail
        refine wp_region_until (fun _ => True) (fun w' => At w' b 75 (hcells (blocksL H s (p / 64)) t2 (n + d.size))) 11 (by rfl) ?_
        have hT : True := trivial
        have s1 := A2.drew
        have s1' := fun (_ : (false = false)) => s1
        refine until_s0 0 (v := ?_) rfl (by kernel_rfl) (fun _ _ _ h => h) (Or.inl ⟨by rfl, ?_⟩) (by assumption) (fun h => by first | assumption | exact absurd (h : true = false) (by decide)) ?_
        rotate_left
        · intro w hSw; (try dsimp only at hSw); (try go_simp); (try with_reducible rfl)
        try simp only [Act.put, List.setIfInBounds_toArray, List.set_cons_zero, List.set_cons_succ]
        refine until_s0 1 (v := ?_) rfl (by kernel_rfl) (fun _ _ _ h => h) (Or.inl ⟨by rfl, ?_⟩) (by assumption) (fun h => by first | assumption | exact absurd (h : true = false) (by decide)) ?_
        rotate_left
        · intro w hSw; (try dsimp only at hSw); (try go_simp); (try with_reducible rfl)
        try simp only [Act.put, List.setIfInBounds_toArray, List.set_cons_zero, List.set_cons_succ]
        refine until_s0 2 (v := ?_) rfl (by kernel_rfl) (fun _ _ _ h => h) (Or.inl ⟨by rfl, ?_⟩) (by assumption) (fun h => by first | assumption | exact absurd (h : true = false) (by decide)) ?_
        rotate_left
        · intro w hSw; (try dsimp only at hSw); (try go_simp); (try with_reducible rfl)
        try simp only [Act.put, List.setIfInBounds_toArray, List.set_cons_zero, List.set_cons_succ]
        refine until_s0 3 (v := ?_) rfl (by kernel_rfl) (fun _ _ _ h => h) (Or.inl ⟨by rfl, ?_⟩) (by assumption) (fun h => by first | assumption | exact absurd (h : true = false) (by decide)) ?_
        rotate_left
        · intro w hSw; (try dsimp only at hSw); (try go_simp); (try with_reducible rfl)
        try simp only [Act.put, List.setIfInBounds_toArray, List.set_cons_zero, List.set_cons_succ]
        refine until_s0 5 (v := ?_) rfl (by kernel_rfl) (fun _ _ _ h => h) (Or.inl ⟨by rfl, ?_⟩) (by assumption) (fun h => by first | assumption | exact absurd (h : true = false) (by decide)) ?_
        rotate_left
        · intro w hSw; (try dsimp only at hSw); (try go_simp); (try with_reducible rfl)
        try simp only [Act.put, List.setIfInBounds_toArray, List.set_cons_zero, List.set_cons_succ]
        refine until_s0 6 (v := ?_) rfl (by kernel_rfl) (fun _ _ _ h => h) (Or.inl ⟨by rfl, ?_⟩) (by assumption) (fun h => by first | assumption | exact absurd (h : true = false) (by decide)) ?_
        rotate_left
        · intro w hSw; (try dsimp only at hSw); (try go_simp); (try with_reducible rfl)
        try simp only [Act.put, List.setIfInBounds_toArray, List.set_cons_zero, List.set_cons_succ]
        refine until_s0 7 (v := ?_) rfl (by kernel_rfl) (fun _ _ _ h => h) (Or.inl ⟨by rfl, ?_⟩) (by assumption) (fun h => by first | assumption | exact absurd (h : true = false) (by decide)) ?_
        rotate_left
        · intro w hSw; (try dsimp only at hSw); (try go_simp); (try with_reducible rfl)
        try simp only [Act.put, List.setIfInBounds_toArray, List.set_cons_zero, List.set_cons_succ]
        refine until_sole 4 rfl (by kernel_rfl) (by rfl) ?_
        intro K' hK
        refine wp_load_mid _ _ rfl b 0 rfl (wcells (blocksL H s (p / 64))) _ (state_range s1) Tryd.underlying72 rfl (by rw [wcells_len, hSt]; kernel_rfl) ?_
        refine hK _ _ trivial (fun _ => s1) ?_
        clear hK
        skip
        refine until_sole 8 rfl (by kernel_rfl) (by rfl) ?_
        intro K' hK
        go_simp
        go_at_call 43
        refine (mix_any (blocksL H s (p / 64)) hSt t2 st1 b 8 _ (wcells (blocksL H s (p / 64))) [.int .i64 ((n + d.size : Nat) : Int)] (by rw [wcells_len, hSt]) _ s1 (hR.keep ((hF.trans (Fr.setRow _ _ _ _ (.inl (by simp)))).trans (Fr.drew _ _)) (by simpa using fun h => hb h.symm))).mono ?_
        rintro _ w2 ⟨rfl, f2⟩
        have s2 := f2.keep s1 (by simp)
        go_wp2_with fail
        refine hK _ _ trivial (fun _ => s2) ?_
        clear hK s1' s1
        have s1' := fun (_ : (false = false)) => s2
        refine until_s0 9 (v := ?_) rfl (by kernel_rfl) (fun _ _ _ h => h) (Or.inl ⟨by rfl, ?_⟩) (by assumption) (fun h => by first | assumption | exact absurd (h : true = false) (by decide)) ?_
        rotate_left
        · intro w hSw; (try dsimp only at hSw); (try go_simp); (try with_reducible rfl)
        try simp only [Act.put, List.setIfInBounds_toArray, List.set_cons_zero, List.set_cons_succ]
        refine until_s0 10 (v := ?_) rfl (by kernel_rfl) (fun _ _ _ h => h) (Or.inl ⟨by rfl, ?_⟩) (by assumption) (fun h => by first | assumption | exact absurd (h : true = false) (by decide)) ?_
        rotate_left
        · intro w hSw; (try dsimp only at hSw); (try go_simp); (try with_reducible rfl)
        try simp only [Act.put, List.setIfInBounds_toArray, List.set_cons_zero, List.set_cons_succ]
        refine until_sole 11 rfl (by kernel_rfl) (by rfl) ?_
        intro K' hK
        have hSn : (mixL (blocksL H s (p / 64)) (wordsB t2)).length = 8 := mixL_len _ _ hSt
        refine wp_store_mid _ _ _ rfl b 0 (wcells (mixL (blocksL H s (p / 64)) (wordsB t2))).toArray rfl rfl (state_there s2 (by rw [List.size_toArray, wcells_len, wcells_len, hSn, hSt]; omega)) (by rw [List.size_toArray, wcells_len, hSn]; kernel_rfl) (all_oneCell_toArray (by intro v hv; obtain ⟨x, _, rfl⟩ := List.mem_map.1 hv; rfl)) ?_
        refine hK _ _ trivial (fun h => absurd (h : true = false) (by decide)) ?_
        clear hK s1'
        refine until_done (by kernel_rfl) ?_ _
        go_wp2_with fail
        have s3 := At.setCells (wcells (mixL (blocksL H s (p / 64)) (wordsB t2))) 0 _ _ s2 (by simp [hcells, wcells_len, hSn, hSt])
        obtain ⟨hqm, hmm⟩ := HM.out
        obtain ⟨hqp, hsz⟩ := HQ.out
        have hp64 : p + m = 64 * (p / 64 + 1) := by omega
        have ed : (p + m) / 64 = p / 64 + 1 := by omega
        have em : (p + m) % 64 = 0 := by omega
        have es : List.take 0 (hcells (blocksL H s (p / 64)) t2 (n + d.size)) ++ wcells (mixL (blocksL H s (p / 64)) (wordsB t2)) ++ List.drop (0 + (wcells (mixL (blocksL H s (p / 64)) (wordsB t2))).length) (hcells (blocksL H s (p / 64)) t2 (n + d.size)) = hcells (mixL (blocksL H s (p / 64)) (wordsB t2)) t2 (n + d.size) := by
          rw [wcells_len, hSn, Nat.zero_add, List.take_zero, List.nil_append]
          unfold hcells
          rw [List.append_assoc, List.append_assoc, List.drop_append_of_le_length (by rw [wcells_len, hSt]; omega), List.drop_eq_nil_of_le (by rw [wcells_len, hSt]; omega)]
          rfl
        rw [es] at s3
        have hfull := tail_full H s t2 (p / 64) st1 (by have := HT.out; rwa [hqm] at this)
        refine ⟨⟨p + m, _, t2, by omega, rfl, HD.out, by rw [em]; rfl, st1, by rw [em, List.take_zero, List.take_zero], by rw [ed, ← hfull]; exact s3, ?_⟩, ?_⟩
        · exact (((hF.trans (Fr.setRow _ _ _ _ (.inl (by simp)))).trans (Fr.drew _ _)).trans (f2.mono (by simp))).trans (Fr.setCells (by simp) _ _ _)
        · simp only [strSize]; simp; omega
      · have w1 : IntKind.i64.wrap ((q : Int) + m) = ((q + m : Nat) : Int) := by rw [IntWalk.i64_in _ (by omega)]; omega
        have w2 : ¬ ((q + m : Nat) : Int) = 64 := by omega
        have HM := Lib.hid (And.intro hf hm)
        have HQ := Lib.hid (And.intro hq hsz)
        clear hm hxl hf hq hsz
        go_wp2_with fail
        obtain ⟨hqm, hmm⟩ := HM.out
        obtain ⟨hqp, hsz⟩ := HQ.out
        have e1 : p + m = s.length := by omega
        have ed : (p + m) / 64 = p / 64 := by omega
        have em : (p + m) % 64 = q + m := by omega
        refine ⟨⟨p + m, _, t2, by omega, rfl, HD.out, by rw [em]; first | rfl | simp, st1, by rw [em, ed]; exact HT.out, by rw [ed]; exact A2, hF.trans (Fr.setRow _ _ _ _ (.inl (by simp)))⟩, ?_⟩
        simp only [strSize]; simp; omega
    · obtain rfl : p = s.length := by omega
      have k0 : (dv.size : Int) = 0 := by omega
      have hSt := blocksL_len H s hH (s.length / 64)
      have htl := tail_end s tl ht
      clear hsz hdv ht
      go_wp2_with fail
      go_end0
      have hrs := restOf_len s
      refine ⟨rfl, ⟨hb, hSt, by omega, tl, hl, ?_, hA⟩, hF⟩
      rw [hrs]; exact htl
end Go.Proofs.YtkagmoaapampgaaDoor
