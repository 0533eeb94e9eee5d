/- Unhex of the program. -/
import Derived.Test.YtkagmoaapampgaaDoorHexW
namespace Go.Proofs.YtkagmoaapampgaaDoor
open Go.RowKit Go.Lib Base
set_option linter.unusedVariables false
set_option linter.unusedSimpArgs false

theorem dv_int (c : UInt8) : dv c = if 48 ≤ bt c ∧ bt c ≤ 57 then bt c - 48 else if 97 ≤ bt c ∧ bt c ≤ 102 then bt c - 97 + 10 else -1 :=
  all8 (fun c => dv c = if 48 ≤ bt c ∧ bt c ≤ 57 then bt c - 48 else if 97 ≤ bt c ∧ bt c ≤ 102 then bt c - 97 + 10 else -1) (by decide +kernel) c

set_option maxRecDepth 100000 in
theorem digit_any (c : UInt8) (w : World) : Calls Tryd.prog 31 #[.int .u8 (bt c)] w fun e w' => e = .returned (.int .i64 (dv c)) ∧ ∃ q, w' = w.drewN q := by
  have hb := bt_lt c
  rw [dv_int c]
  generalize bt c = n at hb
  by_cases h1 : 48 ≤ n
  · by_cases h2 : n ≤ 57
    · have e1 : IntKind.u8.wrap (n - 48) = n - 48 := by simp [IntKind.wrap, IntKind.bits, IntKind.signed]; omega
      have e2 : IntKind.i64.wrap (n - 48) = n - 48 := IntWalk.i64_in _ (by omega)
      rw [if_pos ⟨h1, h2⟩]
      go_enter Tryd.func31, Tryd.ntmps31
      go_wp2_with fail
      go_ret
      exact ⟨rfl, 0, rfl⟩
    · rw [if_neg (by omega)]
      by_cases h3 : 97 ≤ n
      · by_cases h4 : n ≤ 102
        · have e1 : IntKind.u8.wrap (n - 97) = n - 97 := by simp [IntKind.wrap, IntKind.bits, IntKind.signed]; omega
          have e2 : IntKind.i64.wrap (n - 97) = n - 97 := IntWalk.i64_in _ (by omega)
          have e3 : IntKind.i64.wrap (n - 97 + 10) = n - 97 + 10 := IntWalk.i64_in _ (by omega)
          rw [if_pos ⟨h3, h4⟩]
          go_enter Tryd.func31, Tryd.ntmps31
          go_wp2_with fail
          go_ret
          exact ⟨rfl, 0, rfl⟩
        · rw [if_neg (by omega)]
          go_enter Tryd.func31, Tryd.ntmps31
          go_wp2_with fail
          go_ret
          exact ⟨rfl, 0, rfl⟩
      · rw [if_neg (by omega)]
        go_enter Tryd.func31, Tryd.ntmps31
        go_wp2_with fail
        go_ret
        exact ⟨rfl, 0, rfl⟩
  · rw [if_neg (by omega), if_neg (by omega)]
    go_enter Tryd.func31, Tryd.ntmps31
    go_wp2_with fail
    go_ret
    exact ⟨rfl, 0, rfl⟩

/-- A good digit's value as a byte. -/
def dy (c : UInt8) : UInt8 := UInt8.ofNat (dv c).toNat
theorem dy_bt (c : UInt8) : 0 ≤ dv c → dv c = bt (dy c) := all8 (fun c => 0 ≤ dv c → dv c = bt (dy c)) (by decide +kernel) c
theorem dy_lt (c : UInt8) : dy c < 16 := all8 (fun c => dy c < 16) (by decide +kernel) c
/-- What a text's digits say, good or bad. -/
def unR (T : List UInt8) (n : Nat) : List UInt8 := (List.range n).map fun i => dy (T.getD (2 * i) 0) <<< 4 ||| dy (T.getD (2 * i + 1) 0)
theorem unR_len (T : List UInt8) (n : Nat) : (unR T n).length = n := by simp [unR]
theorem or16 (a b : UInt8) (ha : a < 16) (hb : b < 16) : a <<< 4 ||| b = UInt8.ofNat (16 * a.toNat + b.toNat) := by
  obtain rfl | rfl | rfl | rfl | rfl | rfl | rfl | rfl | rfl | rfl | rfl | rfl | rfl | rfl | rfl | rfl := all16 a ha
  all_goals
    obtain rfl | rfl | rfl | rfl | rfl | rfl | rfl | rfl | rfl | rfl | rfl | rfl | rfl | rfl | rfl | rfl := all16 b hb
    all_goals decide +kernel
theorem pair_good (a b : UInt8) (ha : 0 ≤ dv a) (hb : 0 ≤ dv b) : pair a b = some (dy a <<< 4 ||| dy b) := by
  unfold pair
  rw [if_neg (by omega), or16 _ _ (dy_lt a) (dy_lt b)]
  have h1 := dy_bt a ha
  have h2 := dy_bt b hb
  congr 2
  have e1 : (dy a).toNat = (dv a).toNat := by rw [h1]; simp [bt]
  have e2 : (dy b).toNat = (dv b).toNat := by rw [h2]; simp [bt]
  rw [e1, e2]
theorem pair_bad (a b : UInt8) (h : dv a < 0 ∨ dv b < 0) : pair a b = none := by
  unfold pair; rw [if_pos h]
theorem unhex_good (T : List UInt8) (n : Nat) (h : T.length = 2 * n) (hall : ∀ i, i < n → 0 ≤ dv (T.getD (2 * i) 0) ∧ 0 ≤ dv (T.getD (2 * i + 1) 0)) : unhexL T = some (unR T n) := by
  obtain ⟨r, h1, h2, h3⟩ := unhex_even n T h (fun i hi => ⟨_, pair_good _ _ (hall i hi).1 (hall i hi).2⟩)
  rw [h1]
  congr 1
  apply List.ext_getElem?
  intro i
  by_cases hi : i < n
  · rw [← h3 i hi, pair_good _ _ (hall i hi).1 (hall i hi).2]
    simp [unR, hi]
  · rw [List.getElem?_eq_none (by omega), List.getElem?_eq_none (by rw [unR_len]; omega)]
theorem unhex_odd : ∀ (l : List UInt8), l.length % 2 = 1 → unhexL l = none
  | [], h => by simp at h
  | [_], h => rfl
  | a :: b :: r, h => by
    have := unhex_odd r (by simp at h; omega)
    rw [unhexL, this]
    cases pair a b <;> rfl
/-- Unhex's text, and its code. -/
def unS (T : List UInt8) : ByteArray := match unhexL T with | some r => ⟨r.toArray⟩ | none => ⟨#[]⟩
def unC (T : List UInt8) : Int := match unhexL T with | some _ => 0 | none => 20
section
variable (t : TypeId) (x y : UInt8)
theorem bt_shl4 : bt x * 16 % 256 = bt (x <<< 4) := all8 (fun x => bt x * 16 % 256 = bt (x <<< 4)) (by decide +kernel) x
@[go_sem high] theorem bt_shl : binOp .shl t (.int .u8 (bt x)) (.int .u64 4) = pure (.int .u8 (bt (x <<< 4))) := by
  rw [binOp_shl]
  have := bt_shl4 x
  have e : IntKind.u8.wrap (bt x * 2 ^ 4) = bt (x <<< 4) := by
    rw [← this]; simp [IntKind.wrap, IntKind.bits, IntKind.signed]
  rw [← e]
  simp [Op.shift]
  rfl
@[go_sem high] theorem bt_or : binOp .or t (.int .u8 (bt x)) (.int .u8 (bt y)) = pure (.int .u8 (bt (x ||| y))) := by
  have : bits .or .u8 (bt x) (bt y) = bt (x ||| y) := by
    unfold bt; rw [bits8_or _ _ x.toNat_lt y.toNat_lt, UInt8.toNat_or]
  rw [← this]; simp [binOp, intBits_or]
end

theorem fillUp_at (m : Nat) (l : List UInt8) (h : m < l.length) : (fillUp l m).getD m 0 = 0 := by
  have e : (l.take m).length = m := by simp; omega
  unfold fillUp
  simp only [List.getD]
  rw [List.getElem?_append_right (by omega), e, Nat.sub_self]
  simp only [zerosB, List.getElem?_replicate]
  rw [if_pos (by omega)]
  rfl

set_option maxRecDepth 100000 in
set_option maxHeartbeats 1000000 in
theorem unhex_any (t : ByteArray) (ht : t.size ≤ 4194304) (w : World) :
    Calls Tryd.prog 16 #[.string t] w fun e w' => e = .returned (.tuple #[.string (unS t.data.toList), .int .i64 (unC t.data.toList)]) ∧ Fr [] w w' := by
  obtain ⟨T, hT⟩ : ∃ T, T = t.data.toList := ⟨_, rfl⟩
  have hTl : T.length = t.size := by rw [hT]; simp
  rw [← hT]
  have HT := Lib.hid hT
  clear hT
  by_cases hodd : t.size % 2 = 1
  · have hbad : unhexL T = none := unhex_odd T (by omega)
    have e1 : unS T = ⟨#[]⟩ := by unfold unS; rw [hbad]
    have e2 : unC T = 20 := by unfold unC; rw [hbad]
    rw [e1, e2]
    have o1 : (t.size : Int) % 2 = 1 := by omega
    clear hbad e1 e2 hodd hTl
    go_enter Tryd.func16, Tryd.ntmps16
    go_wp2_with fail
    go_ret2
    exact ⟨rfl, Fr.refl _ _⟩
  · obtain ⟨n, hn⟩ : ∃ n, t.size = 2 * n := ⟨t.size / 2, by omega⟩
    have o1 : ¬ (t.size : Int) % 2 = 1 := by omega
    have ob : ((t.size : Int) % 2 == 1) = false := by simpa using o1
    have o2 : (t.size : Int) / 2 = n := by omega
    have hnn : n ≤ 2097152 := by omega
    have hmk := run_mk (P := Tryd.prog) Tryd.underlying28 (by kernel_rfl) n (by omega)
    obtain ⟨R, hR⟩ : ∃ R, R = unR T n := ⟨_, rfl⟩
    have hRl : R.length = n := by rw [hR, unR_len]
    have HR := Lib.hid hR
    have HTL := Lib.hid (hTl.trans hn)
    have HN := Lib.hid hn
    clear hR hTl hn hodd
    go_enter Tryd.func16, Tryd.ntmps16
    go_wp2_with fail
    have h0 : At (w.alloc (.cells (byteCells (zerosB n)).toArray 5)) w.heap.size 5 (byteCells (fillUp R 0)) := by
      rw [fillUp_zero, hRl]; exact At.alloc_new w 5 (byteCells (zerosB n)).toArray
    go_loopw [19] (fun v wr => ∃ i : Nat, i ≤ n ∧ v = .int .i64 i ∧ (∀ k, k < i → 0 ≤ dv (T.getD (2 * k) 0) ∧ 0 ≤ dv (T.getD (2 * k + 1) 0)) ∧ At wr w.heap.size 5 (byteCells (fillUp R i)) ∧ Fr [] w wr) (fun v _ => n - (intOf v).toNat)
    case atStart => exact ⟨0, by omega, rfl, by intro k hk; omega, h0, Fr.alloc _ _ _⟩
    case round =>
      clear h0
      obtain ⟨i, hi, rfl, hgood, h0, hF⟩ := hrel
      have HG := Lib.hid hgood
      clear hgood
      by_cases hl : i < n
      · have l1 : (i : Int) < n := by omega
        have htl := HTL.out
        have htn := HN.out
        obtain ⟨a, ha⟩ : ∃ a, a = T.getD (2 * i) 0 := ⟨_, rfl⟩
        obtain ⟨b, hb⟩ : ∃ b, b = T.getD (2 * i + 1) 0 := ⟨_, rfl⟩
        have HA := Lib.hid ha
        have HB := Lib.hid hb
        obtain ⟨P, hP⟩ : ∃ P, t.extract (2 * i) (2 * i + 2) = P := ⟨_, rfl⟩
        have hPl : P.data.toList = [a, b] := by
          rw [← hP, ByteArray.data_extract, Array.toList_extract, List.extract_eq_take_drop, show 2 * i + 2 - 2 * i = 2 by omega]
          have e0 : t.data.toList = T := HT.out.symm
          rw [e0, List.drop_eq_getElem_cons (by omega), List.drop_eq_getElem_cons (by omega), ha, hb]
          simp only [List.take_succ_cons, List.take_zero, List.getD, List.getElem?_eq_getElem (show 2 * i < T.length by omega), List.getElem?_eq_getElem (show 2 * i + 1 < T.length by omega), Option.getD_some]
        have hPs : P.size = 2 := by have := congrArg List.length hPl; simpa using this
        have k1 : IntKind.i64.wrap (2 * (i : Int)) = 2 * (i : Int) := IntWalk.i64_in _ (by omega)
        have k2 : IntKind.i64.wrap (2 * (i : Int) + 2) = 2 * (i : Int) + 2 := IntWalk.i64_in _ (by omega)
        have k3 : (0 : Int) ≤ 2 * (i : Int) := by omega
        have k4 : 2 * (i : Int) + 2 ≤ t.size := by omega
        have k5 : 2 * (i : Int) ≤ 2 * (i : Int) + 2 := by omega
        have k6 : (2 * (i : Int)).toNat = 2 * i := by omega
        have k7 : (2 * (i : Int) + 2).toNat = 2 * i + 2 := by omega
        obtain ⟨cap, rest, W, hcap, hcv, aW, fW, sW⟩ := run_ofStr (P := Tryd.prog) wr 9 28 5 P Tryd.underlying9 Tryd.underlying28 Tryd.underlying5
        rw [hPl] at aW
        rw [hPs] at hcap hcv
        clear ha hb hPl htl htn
        have lt0 := h0.lt
        have h0 := (fW []).keep h0 (by simp)
        have hF := hF.trans (fW [])
        go_wp2_with fail
        generalize wr.heap.size = go at lt0 aW sW ⊢
        go_loopw [31] (fun v wr' => ∃ j : Nat, j ≤ 2 ∧ v = .int .i64 j ∧ (1 ≤ j → 0 ≤ dv a) ∧ (2 ≤ j → 0 ≤ dv b) ∧ At wr' w.heap.size 5 (byteCells ((fillUp R i).set i (if j = 0 then 0 else if j = 1 then dy a else dy a <<< 4 ||| dy b))) ∧ AtS wr' go 5 (byteCells [a, b] ++ rest) ∧ Fr [] w wr') (fun v _ => 2 - (intOf v).toNat)
        case atStart =>
          refine ⟨0, by omega, rfl, by omega, by omega, ?_, aW, hF⟩
          have e : (fillUp R i).set i 0 = fillUp R i := by
            apply List.ext_getElem?; intro k
            rw [List.getElem?_set]
            by_cases hk : i = k
            · subst hk
              have := fillUp_at i R (by omega)
              have hlen : i < (fillUp R i).length := by rw [fillUp_len _ _ (by omega)]; omega
              simp [List.getD, hlen] at this
              simp [hlen, this]
            · simp [hk]
          simpa [e] using h0
        case round =>
          clear h0 aW hF
          obtain ⟨j, hj, rfl, hja, hjb, h0, aW, hF⟩ := hrel
          obtain rfl | rfl | rfl : j = 0 ∨ j = 1 ∨ j = 2 := by omega
          · have c7 : wr.cell? ⟨go, 0, none⟩ = some (.int .u8 (bt a)) := by rw [aW.cell]; rfl
            by_cases hd : dv a < 0
            · have hbad : unhexL T = none := unhex_bad i T (by have := HTL.out; omega) (by rw [← HA.out, ← HB.out]; exact pair_bad a b (Or.inl hd))
              have e1 : unS T = ⟨#[]⟩ := by unfold unS; rw [hbad]
              have e2 : unC T = 20 := by unfold unC; rw [hbad]
              have HE := Lib.hid (And.intro e1 e2)
              clear hbad e1 e2
              go_wp2_with (first
                | (go_at_call 31; refine (digit_any a _).mono ?_; rintro e w' ⟨rfl, qd, rfl⟩)
                | fail)
              go_ret2
              exact ⟨by rw [HE.out.1, HE.out.2]; rfl, hF.trans (Fr.drewN _ _ _)⟩
            · have hg : 0 ≤ dv a := by omega
              have wv : IntKind.u8.wrap (dv a) = bt (dy a) := by rw [dy_bt a hg, u8_btb]
              have co := h0.cell i
              rw [byteCells_get _ _ (by rw [List.length_set, fillUp_len _ _ (by omega)]; omega)] at co
              have hlen : i < (fillUp R i).length := by rw [fillUp_len _ _ (by omega)]; omega
              simp [List.getD, hlen] at co
              have fo := h0.frozen i
              clear hlen
              go_wp2_with (first
                | (go_at_call 31; refine (digit_any a _).mono ?_; rintro e w' ⟨rfl, qd, rfl⟩)
                | fail)
              refine ⟨⟨1, by omega, by simp, ?_, ?_, ?_, ?_, ?_⟩, ?_⟩
              · intro _; exact hg
              · intro h; omega
              · have h := h0.setCell i (.int .u8 (bt (dy a)))
                rw [byteCells_set, List.set_set] at h
                first | exact h | simpa using h
              · exact aW.setCell_other (by show go ≠ w.heap.size; omega) _
              · exact hF.new (S := [w.heap.size]) ((Fr.setCell [w.heap.size] wr ⟨w.heap.size, i, none⟩ _ (.inl (by simp))).trans (Fr.drewN _ _ _)) (by simp)
              · show 2 - (intOf (Value.int .i64 1)).toNat < 2 - (intOf (Value.int .i64 0)).toNat
                simp [intOf]
          · have c7 : wr.cell? ⟨go, 1, none⟩ = some (.int .u8 (bt b)) := by rw [aW.cell]; rfl
            by_cases hd : dv b < 0
            · have hbad : unhexL T = none := unhex_bad i T (by have := HTL.out; omega) (by rw [← HA.out, ← HB.out]; exact pair_bad a b (Or.inr hd))
              have e1 : unS T = ⟨#[]⟩ := by unfold unS; rw [hbad]
              have e2 : unC T = 20 := by unfold unC; rw [hbad]
              have HE := Lib.hid (And.intro e1 e2)
              clear hbad e1 e2
              go_wp2_with (first
                | (go_at_call 31; refine (digit_any b _).mono ?_; rintro e w' ⟨rfl, qd, rfl⟩)
                | fail)
              go_ret2
              exact ⟨by rw [HE.out.1, HE.out.2]; rfl, hF.trans (Fr.drewN _ _ _)⟩
            · have hg : 0 ≤ dv b := by omega
              have wv : IntKind.u8.wrap (dv b) = bt (dy b) := by rw [dy_bt b hg, u8_btb]
              have co := h0.cell i
              rw [byteCells_get _ _ (by rw [List.length_set, fillUp_len _ _ (by omega)]; omega)] at co
              have hlen : i < (fillUp R i).length := by rw [fillUp_len _ _ (by omega)]; omega
              simp [List.getD, hlen] at co
              have fo := h0.frozen i
              clear hlen
              go_wp2_with (first
                | (go_at_call 31; refine (digit_any b _).mono ?_; rintro e w' ⟨rfl, qd, rfl⟩)
                | fail)
              refine ⟨⟨2, by omega, by simp, ?_, ?_, ?_, ?_, ?_⟩, ?_⟩
              · intro _; exact hja (by omega)
              · intro h; exact hg
              · have h := h0.setCell i (.int .u8 (bt (dy a <<< 4 ||| dy b)))
                rw [byteCells_set, List.set_set] at h
                first | exact h | simpa using h
              · exact aW.setCell_other (by show go ≠ w.heap.size; omega) _
              · exact hF.new (S := [w.heap.size]) ((Fr.setCell [w.heap.size] wr ⟨w.heap.size, i, none⟩ _ (.inl (by simp))).trans (Fr.drewN _ _ _)) (by simp)
              · show 2 - (intOf (Value.int .i64 2)).toNat < 2 - (intOf (Value.int .i64 1)).toNat
                simp [intOf]
          · go_wp2_with fail
            refine ⟨⟨i + 1, by omega, by simp, ?_, ?_, hF⟩, by simp only [intOf]; omega⟩
            · intro k hk
              by_cases he : k = i
              · subst he
                rw [← HA.out, ← HB.out]
                exact ⟨hja (by omega), hjb (by omega)⟩
              · exact HG.out k (by omega)
            · have hset := fillUp_set i R (by omega)
              have e : R.getD i 0 = dy a <<< 4 ||| dy b := by
                rw [HR.out, HA.out, HB.out]
                simp [unR, List.getD, hl]
              rw [e] at hset
              rw [← hset]
              simpa using h0
      · obtain rfl : i = n := by omega
        have hun : unhexL T = some R := by rw [unhex_good T i HTL.out HG.out, HR.out]
        have HE := Lib.hid (show unS T = ⟨R.toArray⟩ ∧ unC T = 0 from ⟨by unfold unS; rw [hun], by unfold unC; rw [hun]⟩)
        clear hun
        have hcv := run_strB (P := Tryd.prog) (d := 9) Tryd.underlying28 Tryd.underlying5 Tryd.underlying9 wr w.heap.size 0 i 5 R [] [] (by
          rw [List.nil_append, List.append_nil]
          have := h0
          rw [show fillUp R i = fillUp R R.length by rw [hRl], fillUp_all] at this
          exact this) rfl i hRl.symm
        go_wp2_with fail
        go_ret2
        exact ⟨by rw [HE.out.1, HE.out.2]; rfl, hF⟩
end Go.Proofs.YtkagmoaapampgaaDoor
