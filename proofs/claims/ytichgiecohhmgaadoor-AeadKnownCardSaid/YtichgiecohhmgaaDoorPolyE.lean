/- The program's Poly1305: what is written. -/
import Derived.Test.YtichgiecohhmgaaDoorPolyD
namespace Go.Proofs.YtichgiecohhmgaaDoor
open Go.RowKit Go.Lib Go.Joins Base
set_option linter.unusedVariables false
set_option linter.unusedSimpArgs false

/-- What stands ahead of the bytes that wait. -/
def mhead (acc r s : List UInt64) : List Value := qcells acc ++ (qcells r ++ qcells s)
theorem mhead_len (acc r s : List UInt64) (ha : acc.length = 5) (hr : r.length = 5) (hs : s.length = 2) : (mhead acc r s).length = 12 := by simp [mhead, qcells_len, ha, hr, hs]
theorem mcells_eq (acc r s : List UInt64) (rest : List UInt8) (held : Nat) : mcells acc r s rest held = mhead acc r s ++ (byteCells rest ++ [.int .i64 (held : Int)]) := by simp [mcells, mhead]
theorem mcells28 (acc r s : List UInt64) (rest : List UInt8) (held : Nat) (ha : acc.length = 5) (hr : r.length = 5) (hs : s.length = 2) (h : rest.length = 16) : (mcells acc r s rest held)[28]? = some (.int .i64 (held : Int)) := by
  have hh := mhead_len acc r s ha hr hs
  rw [mcells_eq, List.getElem?_append_right (by omega), hh, List.getElem?_append_right (by rw [byteCells_length, h]; omega), byteCells_length, h]; rfl
theorem mcells28_set (acc r s : List UInt64) (rest : List UInt8) (held h2 : Nat) (ha : acc.length = 5) (hr : r.length = 5) (hs : s.length = 2) (h : rest.length = 16) : (mcells acc r s rest held).set 28 (.int .i64 (h2 : Int)) = mcells acc r s rest h2 := by
  have hh := mhead_len acc r s ha hr hs
  rw [mcells_eq, List.set_append_right _ _ (by omega), hh, List.set_append_right _ _ (by rw [byteCells_length, h]; omega), byteCells_length, h, mcells_eq]; rfl
theorem mcells_copy (acc r s : List UInt64) (t x : List UInt8) (n q : Nat) (ha : acc.length = 5) (hr : r.length = 5) (hs : s.length = 2) (ht : t.length = 16) (hq : q + x.length ≤ 16) :
    (mcells acc r s t n).take (12 + q) ++ byteCells x ++ (mcells acc r s t n).drop (12 + q + x.length) = mcells acc r s (t.take q ++ x ++ t.drop (q + x.length)) n := by
  have hh := mhead_len acc r s ha hr hs
  rw [mcells_eq, mcells_eq]
  have e1 : (mhead acc r s ++ (byteCells t ++ [Value.int .i64 (n : Int)])).take (12 + q) = mhead acc r s ++ byteCells (t.take q) := by
    rw [← hh, List.take_length_add_append, List.take_append_of_le_length (by rw [byteCells_length]; omega)]
    simp [byteCells]
  have e2 : (mhead acc r s ++ (byteCells t ++ [Value.int .i64 (n : Int)])).drop (12 + q + x.length) = byteCells (t.drop (q + x.length)) ++ [Value.int .i64 (n : Int)] := by
    rw [Nat.add_assoc, ← hh, List.drop_length_add_append, List.drop_append_of_le_length (by rw [byteCells_length]; omega)]
    simp [byteCells]
  rw [e1, e2]
  simp [byteCells]
theorem mac_bytes {w : World} {b : Nat} {acc r s : List UInt64} {rest : List UInt8} {held : Nat} (h : At w b 87 (mcells acc r s rest held)) (ha : acc.length = 5) (hr : r.length = 5) (hs : s.length = 2) : Bytes w b 12 rest := fun j x hj => by
  have hh := mhead_len acc r s ha hr hs
  have hl : j < rest.length := (List.getElem?_eq_some_iff.1 hj).1
  rw [h.cell, mcells_eq, List.getElem?_append_right (by omega), hh, Nat.add_sub_cancel_left, List.getElem?_append_left (by rw [byteCells_length]; exact hl)]
  unfold byteCells
  rw [List.getElem?_map, hj]; rfl
theorem tail16 (s tail : List UInt8) (p m : Nat) (hp : p < s.length) (hm : m ≤ 16 - p % 16) (hm2 : m ≤ s.length - p) (ht : tail.length = 16) (h : tail.take (p % 16) = (s.drop (16 * (p / 16))).take (p % 16)) :
    (tail.take (p % 16) ++ (s.drop p).take m ++ tail.drop (p % 16 + m)).length = 16 ∧
    (tail.take (p % 16) ++ (s.drop p).take m ++ tail.drop (p % 16 + m)).take (p % 16 + m) = (s.drop (16 * (p / 16))).take (p % 16 + m) := by
  have l1 : (tail.take (p % 16)).length = p % 16 := by simp; omega
  have l2 : ((s.drop p).take m).length = m := by simp; omega
  refine ⟨by simp; omega, ?_⟩
  have l3 : (tail.take (p % 16) ++ (s.drop p).take m).length = p % 16 + m := by rw [List.length_append, l1, l2]
  rw [← l3, List.take_left, l3, h, List.take_add, List.drop_drop, show 16 * (p / 16) + p % 16 = p by omega]
def strSize : Value → Nat
  | .string s => s.size
  | _ => 0
set_option maxRecDepth 100000 in
set_option maxHeartbeats 2000000 in
theorem pwrite_any (K T : List UInt8) (d : ByteArray) (hn : T.length + d.size ≤ 4611686018427387904) (b : Nat) (w : World) (h : Macs w b K T) :
    Calls Tryd.prog 36 #[.pointer (some ⟨b, 0, none⟩), .string d] w fun e w' => e = .returned (.int .i64 0) ∧ Macs w' b K (T ++ d.data.toList) ∧ Fr [b] w w' := by
  obtain ⟨t0, ht0, hr0, hA0⟩ := h
  obtain ⟨S, hS⟩ : ∃ S, S = T ++ d.data.toList := ⟨_, rfl⟩
  have hSl : S.length = T.length + d.size := by rw [hS]; simp
  have hd0 : d.data.toList = S.drop T.length := by rw [hS]; simp
  obtain ⟨R, hR⟩ : ∃ R, R = rOf K := ⟨_, rfl⟩
  obtain ⟨s2, hs2⟩ : ∃ s2, s2 = [s0Of K, s1Of K] := ⟨_, rfl⟩
  have hRl : R.length = 5 := by rw [hR]; rfl
  have hs2l : s2.length = 2 := by rw [hs2]; rfl
  have hA1 : At w b 87 (mcells (accUp R S (T.length / 16)) R s2 t0 (T.length % 16)) := by
    rw [hS, accUp_app _ _ _ _ (by omega), hR, hs2]; exact hA0
  have hr1 : t0.take (T.length % 16) = (S.drop (16 * (T.length / 16))).take (T.length % 16) := by
    rw [hr0, hS, List.drop_append_of_le_length (by omega), List.take_append_of_le_length (by rw [List.length_drop]; omega)]
    unfold restL
    rw [List.take_of_length_le (by rw [List.length_drop]; omega)]
  rw [← hS]
  have HS := Lib.hid (And.intro hSl (And.intro hn (And.intro hR hs2)))
  have hFin : ∀ w' rest, rest.length = 16 → rest.take (S.length % 16) = (S.drop (16 * (S.length / 16))).take (S.length % 16) → At w' b 87 (mcells (accUp R S (S.length / 16)) R s2 rest (S.length % 16)) → Macs w' b K S := fun w' rest h1 h2 h3 => by
    refine ⟨rest, h1, ?_, ?_⟩
    · rw [h2, List.take_of_length_le (by rw [List.length_drop]; omega)]; rfl
    · rw [hR, hs2] at h3; exact h3
  clear hS hR hs2 hA0 hr0 hSl hn
  go_enter Tryd.func36, Tryd.ntmps36
  go_wp2_with fail
  go_loopw [1] (fun v wr => ∃ (p : Nat) (dv : ByteArray) (rest : List UInt8), p ≤ S.length ∧ v = .string dv ∧ dv.data.toList = S.drop p ∧ rest.length = 16 ∧ rest.take (p % 16) = (S.drop (16 * (p / 16))).take (p % 16) ∧ At wr b 87 (mcells (accUp R S (p / 16)) R s2 rest (p % 16)) ∧ Fr [b] w wr) (fun v _ => strSize v)
  case atStart => exact ⟨T.length, d, t0, by have := HS.out.1; omega, rfl, hd0, ht0, hr1, hA1, Fr.refl _ _⟩
  case round =>
    clear hd0 ht0 hr1 hA1
    obtain ⟨p, dv, rest, hp, rfl, hdv, hrl, hrt, hA, hF⟩ := hrel
    have hsz : dv.size = S.length - p := by have := congrArg List.length hdv; simpa using this
    have hal := accUp_len R S (p / 16)
    by_cases hl0 : p < S.length
    · have hSl := HS.out.1
      have hn := HS.out.2.1
      obtain ⟨q, hq⟩ : ∃ q, q = p % 16 := ⟨_, rfl⟩
      obtain ⟨m, hm⟩ : ∃ m, m = min dv.size (16 - q) := ⟨_, rfl⟩
      obtain ⟨st1, st2⟩ := tail16 S rest p m hl0 (by omega) (by omega) hrl hrt
      rw [← hq] at st1 st2 hA hrt
      have hxl : (dv.data.toList.take m).length = m := by simp; omega
      obtain ⟨t2, ht2⟩ : ∃ t2, t2 = rest.take q ++ (S.drop p).take m ++ rest.drop (q + m) := ⟨_, rfl⟩
      rw [← ht2] at st1 st2
      have hcp : ∀ ty dcap w', At w' b 87 (mcells (accUp R S (p / 16)) R s2 rest q) → (Builtin.copy_ #[35, 9] ty #[.slice (some ⟨b, 12 + q, none⟩) (16 - q) dcap, .string dv]).run Tryd.prog w' = .ok (.int .i64 (m : Int)) (w'.setRow b (mcells (accUp R S (p / 16)) R s2 t2 q).toArray) := by
        intro ty dcap w' h
        have := run_copy_cut (P := Tryd.prog) w' 35 9 ty 5 b (12 + q) (16 - q) dcap dv _ _ Tryd.underlying35 (by kernel_rfl) h.out m hm (by simp [mcells, qcells_len, byteCells_length, hal, hRl, hs2l, hrl]; omega)
        rw [this]
        have e := mcells_copy (accUp R S (p / 16)) R s2 rest (dv.data.toList.take m) q q hal hRl hs2l hrl (by omega)
        rw [hxl] at e
        rw [List.toList_toArray, e, hdv, ← ht2]; rfl
      have hc1 := fun ty dcap => hcp ty dcap wr hA
      have hc2 := fun ty dcap => hcp ty dcap wr.drew hA.drew
      have c28 := hA.cell 28
      rw [mcells28 _ _ _ _ _ hal hRl hs2l hrl] at c28
      have A2 := (hA.setRow (mcells (accUp R S (p / 16)) R s2 t2 q).toArray)
      rw [List.toList_toArray] at A2
      have F2 := hF.trans (Fr.setRow [b] wr b (mcells (accUp R S (p / 16)) R s2 t2 q).toArray (.inl (by simp)))
      have k0 : (0 : Int) < dv.size := by omega
      have k1 : (q : Int) ≤ 16 := by omega
      have k2 : (m : Int) ≤ dv.size := by omega
      have k3 : ¬ 16 = q := by omega
      have hqm16 : q + m ≤ 16 := by omega
      have hd2 : (dv.extract m dv.size).data.toList = S.drop (p + m) := by
        rw [extract_tail dv m dv.size rfl, hdv, List.drop_drop]
      have HD := Lib.hid (And.intro hd2 (And.intro hq (And.intro hm (And.intro hsz (And.intro st2 (And.intro hSl hn))))))
      clear hd2 hq hm hsz st2 hSl hn hcp ht2 hdv hxl hrt hA hF
      go_wp2_with fail
      go_region
      obtain ⟨X, hX⟩ : ∃ X, X = accUp R S (p / 16) := ⟨_, rfl⟩
      rw [← hX] at A2 F2 hal ⊢
      generalize (wr.setRow b (mcells X R s2 t2 q).toArray) = W2 at A2 F2 ⊢
      have e28 := A2.cell 28
      have z28 := A2.frozen 28
      rw [mcells28 _ _ _ _ _ hal hRl hs2l st1] at e28
      have HX := Lib.hid hX
      clear hc1 hc2 c28 hX
      by_cases hf : q + m = 16
      · have w1 : IntKind.i64.wrap ((q : Int) + m) = 16 := by rw [IntWalk.i64_in _ (by omega)]; omega
        have A3 := A2.setCell 28 (.int .i64 ((16 : Nat) : Int))
        rw [mcells28_set _ _ _ _ _ _ hal hRl hs2l st1] at A3
        have F3 := (F2.trans (Fr.setCell [b] W2 ⟨b, 28, none⟩ (.int .i64 16) (.inl (by simp)))).trans (Fr.drew _ _)
        replace A3 := A3.drew
        change At (W2.setCell ⟨b, 28, none⟩ (.int .i64 16)).drew _ _ _ at A3
        have HF := Lib.hid hf
        clear hf
        go_upto_region 8 with fail
        generalize (W2.setCell ⟨b, 28, none⟩ (.int .i64 16)).drew = W3 at A3 F3 ⊢
        have cL := pload_any t2 st1 1 b 12 W3 A3.lt (mac_bytes A3 hal hRl hs2l)
        have z64 : (.int .u64 (qd 1) : Value) = .int .u64 1 := rfl
        rw [z64] at cL
        have cB := fun w' h => pblock_any X R s2 t2 16 (loadL t2 1) hal hRl rfl b w' h
        obtain ⟨Y, hY⟩ : ∃ Y, Y = loadL t2 1 := ⟨_, rfl⟩
        rw [← hY] at cL cB
        have HY := Lib.hid hY
        clear e28 z28 A2 F2 z64 hY w1
        go_upto_region 9 with (first
          | (go_at_call 54; refine cL.mono ?_; clear cL; rintro e w4 ⟨rfl, f4⟩)
          | (go_at_call 56; refine (cB _ (f4.keep A3 (by simp))).mono ?_; clear cB; rintro e w5 ⟨rfl, A5, f5⟩)
          | fail)
        have F5 := (F3.trans (f4.mono (by simp))).trans f5
        have hbl : (blockL X R Y).length = 5 := blockL_len _ _ _
        have g28 := A5.cell 28
        have y28 := A5.frozen 28
        rw [mcells28 _ _ _ _ _ hbl hRl hs2l st1] at g28
        have A6 := A5.setCell 28 (.int .i64 ((0 : Nat) : Int))
        rw [mcells28_set _ _ _ _ _ _ hbl hRl hs2l st1] at A6
        have F6 := F5.trans (Fr.setCell [b] w5 ⟨b, 28, none⟩ (.int .i64 0) (.inl (by simp)))
        clear A3 F3 A5 f4 f5 F5
        go_wp2_with fail
        obtain ⟨hd2, hq, hm, hsz, st2, _, _⟩ := HD.out
        have hf := HF.out
        have ed : (p + m) / 16 = p / 16 + 1 := by omega
        have em : (p + m) % 16 = 0 := by omega
        have hfull : accUp R S ((p + m) / 16) = blockL X R Y := by
          rw [ed, accUp, HX.out, HY.out]
          rw [hf, List.take_of_length_le (by omega)] at st2
          rw [st2]
        refine ⟨⟨p + m, _, t2, by omega, rfl, hd2, st1, by rw [em, List.take_zero, List.take_zero], by rw [hfull, em]; exact A6, F6⟩, ?_⟩
        simp only [strSize]; simp; omega
      · have w1 : IntKind.i64.wrap ((q : Int) + m) = (q : Int) + m := IntWalk.i64_in _ (by omega)
        have w2 : ¬ (q : Int) + m = 16 := by omega
        have A3 := A2.setCell 28 (.int .i64 ((q + m : Nat) : Int))
        rw [mcells28_set _ _ _ _ _ _ hal hRl hs2l st1, Int.natCast_add] at A3
        have F3 := (F2.trans (Fr.setCell [b] W2 ⟨b, 28, none⟩ (.int .i64 ((q : Int) + m)) (.inl (by simp)))).trans (Fr.drew _ _)
        have HF := Lib.hid hf
        clear hf
        go_wp2_with fail
        obtain ⟨hd2, hq, hm, hsz, st2, _, _⟩ := HD.out
        have hf := HF.out
        have ed : (p + m) / 16 = p / 16 := by omega
        have em : (p + m) % 16 = q + m := by omega
        refine ⟨⟨p + m, _, t2, by omega, rfl, hd2, st1, by rw [em, ed]; exact st2, by rw [ed, em, ← HX.out]; exact A3.drew, F3⟩, ?_⟩
        simp only [strSize]; simp; omega
    · obtain rfl : p = S.length := by omega
      have k0 : ¬ (0 : Int) < dv.size := by omega
      go_wp2_with fail
      go_ret
      exact ⟨rfl, hFin _ _ hrl hrt hA, hF⟩
end Go.Proofs.YtichgiecohhmgaaDoor
