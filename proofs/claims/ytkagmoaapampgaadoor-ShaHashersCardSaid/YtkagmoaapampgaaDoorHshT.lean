/- The document's running sum: taken up again. -/
import Derived.Test.YtkagmoaapampgaaDoorHshS
import Derived.Test.YtkagmoaapampgaaDoorUntil
import Derived.Deep.QuietTactic
import Derived.Deep.Cut
namespace Go.Proofs.YtkagmoaapampgaaDoor
open Go.RowKit Go.Lib Go.Joins Base
set_option linter.unusedVariables false
set_option linter.unusedSimpArgs false

theorem numOf_app : ∀ (b a : List UInt8), numOf a ≤ numOf (a ++ b)
  | [], a => by simp
  | x :: r, a => by
    have h1 := numOf_app r (a ++ [x])
    rw [numOf_snoc, List.append_assoc] at h1
    have : (a ++ ([x] ++ r)) = a ++ x :: r := rfl
    rw [this] at h1
    omega
theorem numOf_take (l : List UInt8) (j : Nat) : numOf (l.take j) ≤ numOf l := by
  have := numOf_app (l.drop j) (l.take j)
  rwa [List.take_append_drop] at this
theorem numOf_step (l : List UInt8) (j : Nat) (x : UInt8) (h : l[j]? = some x) : numOf (l.take (j + 1)) = 256 * numOf (l.take j) + x.toNat := by
  rw [List.take_add_one, h]; exact numOf_snoc _ _
theorem eight_var {w : World} {g : Nat} {X : List UInt32} (hX : X.length = 8) (h : At w g 58 (icells X)) : (loadVar 58 ⟨g, 0, none⟩).run Tryd.prog w = .ok (.agg (icells X).toArray) w := by
  refine run_loadVar_mid w g 0 _ _ _ (fun j v hj => by rw [Nat.zero_add, h.cell]; exact hj) Tryd.underlying58 rfl ?_
  rw [icells_len, hX]; kernel_rfl
theorem wp_built {P : Program} {o : Oper} {a : Act} {w : World} {K : Act → World → Prop} {Q : Exit → Act → World → Prop} (t : TypeId) (parts : Array (Nat × Operand)) (ho : o.op = .build t parts) (cells : Array Value)
    (hf : P.built t (parts.map fun (i, x) => (i, a.eval x)).toList = some cells) (h : K (a.put o.dst (.agg cells)) w) : o.wp P a w K Q :=
  wp_build t parts ho (by rw [hf]; rfl) (by rw [hf]; exact h)
theorem rcells_built8 (A : Nat) (R : ByteArray) (a b c d e f g h : UInt32) : Tryd.prog.built 82 [(0, .agg (icells [a, b, c, d, e, f, g, h]).toArray), (1, .int .i64 (A : Int)), (2, .string R)] = some (rcells [a, b, c, d, e, f, g, h] A R).toArray := by kernel_rfl
theorem rcells_built (F : List UInt32) (A : Nat) (R : ByteArray) (h : F.length = 8) : Tryd.prog.built 82 [(0, .agg (icells F).toArray), (1, .int .i64 (A : Int)), (2, .string R)] = some (rcells F A R).toArray := by
  match F, h with
  | [a, b, c, d, e, f, g, h], _ => exact rcells_built8 A R a b c d e f g h
def rrestE (x : Option (List UInt32 × List UInt8 × Nat)) (w : World) (e : Ending) (w' : World) : Prop :=
  match x with
  | none => e = .returned (.tuple #[.pointer none, .int .i64 21]) ∧ Fr [] w w'
  | some (H, rest, n) => ∃ r, e = .returned (.tuple #[.pointer (some ⟨r, 0, none⟩), .int .i64 0]) ∧ w.heap.size ≤ r ∧ RH w' r H (n - n % 64) ⟨rest.toArray⟩ ∧ Fr [] w w'

set_option maxRecDepth 100000 in
set_option maxHeartbeats 2000000 in
theorem rrestore_any (s : ByteArray) (hs : s.size ≤ 140737488355328) (w : World) :
    Calls Tryd.prog 46 #[.string s] w (rrestE (restP s.data.toList) w) := by
  obtain ⟨S, hS⟩ : ∃ S, S = s.data.toList := ⟨_, rfl⟩
  have hSl : S.length = s.size := by rw [hS]; simp
  rw [← hS]
  by_cases h40 : s.size < 40
  · have e : restP S = none := by unfold restP; rw [if_pos (by omega)]
    rw [e]
    have l1 : (s.size : Int) < 40 := by omega
    clear e hS
    go_enter Tryd.func46, Tryd.ntmps46
    go_wp2_with fail
    go_ret2
    exact ⟨rfl, Fr.refl _ _⟩
  · have k0 : ¬ (s.size : Int) < 40 := by omega
    obtain ⟨T, hT⟩ : ∃ T, T = (S.drop 32).take 8 := ⟨_, rfl⟩
    have hTl : T.length = 8 := by rw [hT]; simp; omega
    have hN : numS S = numOf T := by rw [hT]; rfl
    have HS := Lib.hid (And.intro hS (And.intro hSl (And.intro hT (And.intro hTl (And.intro hN h40)))))
    clear hS hSl hT hTl hN h40
    go_enter Tryd.func46, Tryd.ntmps46
    go_wp2_with fail
    go_loopw [4, 5] (fun v4 v5 wr => ∃ j : Nat, j ≤ 8 ∧ v5 = .int .i64 ((32 + j : Nat) : Int) ∧ v4 = .int .i64 ((numOf (T.take j) : Nat) : Int) ∧ numOf (T.take j) ≤ 1099511627776 ∧ Fr [] w wr) (fun _ v _ => 40 - (RowKit.intOf v).toNat)
    case atStart => exact ⟨0, by omega, rfl, rfl, by simp [numOf], Fr.refl _ _⟩
    case round =>
      obtain ⟨j, hj, rfl, rfl, hn, hF⟩ := hrel
      by_cases hl : j < 8
      · have l1 : ((32 + j : Nat) : Int) < 40 := by omega
        obtain ⟨hS, hSl, hT, hTl, hN, h40⟩ := HS.out
        obtain ⟨x, hx⟩ : ∃ x, T[j]? = some x := ⟨_, List.getElem?_eq_getElem (by omega)⟩
        have hst := numOf_step T j x hx
        have hxs : s.data.toList[32 + j]? = some x := by
          rw [← hS]
          rw [hT, List.getElem?_take_of_lt hl, List.getElem?_drop] at hx
          exact hx
        have i0 : 32 + j < s.size := by omega
        have g0 : s[32 + j]'i0 = x := bget _ hxs
        have l2 : ((32 + j : Nat) : Int) < s.size := by omega
        have hxl := x.toNat_lt
        obtain ⟨N, hNn⟩ : ∃ N, N = numOf (T.take j) := ⟨_, rfl⟩
        obtain ⟨M, hM⟩ : ∃ M, M = numOf (T.take (j + 1)) := ⟨_, rfl⟩
        rw [← hNn, ← hM] at hst
        rw [← hNn] at hn ⊢
        have w1 : IntKind.i64.wrap (256 * (N : Int)) = 256 * N := IntWalk.i64_in _ (by omega)
        have w2 : IntKind.i64.wrap (256 * (N : Int) + x.toNat) = M := by rw [show 256 * (N : Int) + x.toNat = (M : Int) by omega]; exact IntWalk.i64_in _ (by omega)
        have w3 : IntKind.i64.wrap (((32 + j : Nat) : Int) + 1) = ((32 + (j + 1) : Nat) : Int) := by rw [IntWalk.i64_in _ (by omega)]; omega
        have hmax : M ≤ numOf T := by rw [hM]; exact numOf_take T (j + 1)
        have HX := Lib.hid (And.intro hM (And.intro hmax hn))
        clear hst hM hmax hn hNn hS hSl hT hTl hN h40 hx hxs hxl
        by_cases hb : 1099511627776 < M
        · have l3 : (1099511627776 : Int) < M := by omega
          have HB := Lib.hid hb
          clear hb
          go_wp2_with fail
          obtain ⟨hM, hmax, hn⟩ := HX.out
          obtain ⟨hS, hSl, hT, hTl, hN, h40⟩ := HS.out
          have hb := HB.out
          have e : restP S = none := by unfold restP; rw [if_neg (by omega), if_pos (by omega)]
          go_ret2
          rw [e]
          exact ⟨rfl, hF⟩
        · have l3 : ¬ (1099511627776 : Int) < M := by omega
          have HB := Lib.hid hb
          clear hb
          go_wp2_with fail
          obtain ⟨hM, hmax, hn⟩ := HX.out
          have hb := HB.out
          refine ⟨⟨j + 1, by omega, ?_, by rw [hM], by rw [← hM]; omega, hF⟩, ?_⟩
          · rw [show (32 : Int) + j + 1 = ((32 + (j + 1) : Nat) : Int) by omega]
          · simp only [RowKit.intOf]; omega
      · obtain rfl : j = 8 := by omega
        have l1 : ¬ ((32 + 8 : Nat) : Int) < 40 := by omega
        obtain ⟨N, hNn⟩ : ∃ N, N = numOf (T.take 8) := ⟨_, rfl⟩
        rw [← hNn] at hn ⊢
        have hNS : N = numS S := by obtain ⟨hS, hSl, hT, hTl, hN, h40⟩ := HS.out; rw [hNn, hN, List.take_of_length_le (by omega)]
        have w7 : (N : Int).tmod 64 = ((N % 64 : Nat) : Int) := by rw [Int.tmod_eq_emod_of_nonneg (by omega)]; omega
        have w8 : IntKind.i64.wrap ((N % 64 : Nat) : Int) = ((N % 64 : Nat) : Int) := IntWalk.i64_in _ (by omega)
        have w9 : IntKind.i64.wrap (40 + ((N % 64 : Nat) : Int)) = 40 + ((N % 64 : Nat) : Int) := IntWalk.i64_in _ (by omega)
        by_cases hbad : s.size ≠ 40 + N % 64
        · have l2 : ¬ (s.size : Int) = 40 + ((N % 64 : Nat) : Int) := by omega
          have HB := Lib.hid (And.intro hNS hbad)
          clear hNS hbad hNn hn
          go_wp2_with fail
          obtain ⟨hNS, hbad⟩ := HB.out
          obtain ⟨hS, hSl, hT, hTl, hN, h40⟩ := HS.out
          have e : restP S = none := by unfold restP; rw [if_neg (by omega), if_pos (by omega)]
          go_ret2
          rw [e]
          exact ⟨rfl, hF⟩
        · have l2 : (s.size : Int) = 40 + ((N % 64 : Nat) : Int) := by omega
          obtain ⟨WB, hWB⟩ : ∃ WB, WB = wordsB (S.take 32) := ⟨_, rfl⟩
          have HB := Lib.hid (And.intro hNS (And.intro hbad (And.intro hn hWB)))
          clear hNS hbad hNn hn hWB
          have hsz1 : (Tryd.prog.info? 58).map (·.size) = some (icells firstL).toArray.size := by kernel_rfl
          obtain ⟨g6, hg6⟩ : ∃ g, g = wr.heap.size := ⟨_, rfl⟩
          have A6 := At.alloc_new wr 58 #[Value.int .i64 0, Value.int .i64 0, Value.int .i64 0, Value.int .i64 0, Value.int .i64 0, Value.int .i64 0, Value.int .i64 0, Value.int .i64 0]
          rw [← hg6] at A6
          have F6 := hF.trans (Fr.alloc [] wr (.cells #[Value.int .i64 0, Value.int .i64 0, Value.int .i64 0, Value.int .i64 0, Value.int .i64 0, Value.int .i64 0, Value.int .i64 0, Value.int .i64 0] 58))
          go_wp2_with (first
            | (go_at_call 28; refine (rfirst_any _).mono ?_; rintro _ w1 ⟨rfl, f1⟩; have A7 := At.alloc_new w1 58 #[Value.int .i64 0, Value.int .i64 0, Value.int .i64 0, Value.int .i64 0, Value.int .i64 0, Value.int .i64 0, Value.int .i64 0, Value.int .i64 0])
            | refine wpList_store_row rfl _ _ _ rfl _ _ rfl rfl _ _ A7.out hsz1 rfl (icells_one _) ?_
            | fail)
          have A7s := A7.setRow (icells firstL).toArray
          rw [List.toList_toArray] at A7s
          have FS := (Fr.alloc [] w1 (.cells #[Value.int .i64 0, Value.int .i64 0, Value.int .i64 0, Value.int .i64 0, Value.int .i64 0, Value.int .i64 0, Value.int .i64 0, Value.int .i64 0] 58)).new (S := [w1.heap.size]) (Fr.setRow [w1.heap.size] _ w1.heap.size (icells firstL).toArray (.inl (by simp))) (by simp)
          have A6s := FS.keep (f1.keep A6 (by simp)) (by simp)
          have FW := (F6.trans f1).trans FS
          have hg7 : w.heap.size ≤ g6 ∧ g6 < w1.heap.size := ⟨by rw [hg6]; exact hF.size, by have := f1.size; rw [hg6]; simp at this; omega⟩
          change Code.wp _ _ _ _ ((w1.alloc (.cells #[Value.int .i64 0, Value.int .i64 0, Value.int .i64 0, Value.int .i64 0, Value.int .i64 0, Value.int .i64 0, Value.int .i64 0, Value.int .i64 0] 58)).setRow w1.heap.size (icells firstL).toArray)
          generalize (w1.alloc (.cells #[Value.int .i64 0, Value.int .i64 0, Value.int .i64 0, Value.int .i64 0, Value.int .i64 0, Value.int .i64 0, Value.int .i64 0, Value.int .i64 0] 58)).setRow w1.heap.size (icells firstL).toArray = W at A7s A6s FW ⊢
          rw [← hg6]
          obtain ⟨g7, hg7e⟩ : ∃ g, g = w1.heap.size := ⟨_, rfl⟩
          rw [← hg7e] at A7s hg7 ⊢
          have HG := Lib.hid hg7
          have LL := Lib.hid (And.intro k0 l2)
          clear A7 FS F6 A6 f1 hg6 hg7e hg7 hF w7 w8 w9 l2 k0 l1
          clear wr
          go_loopw [8] (fun v wr => ∃ i : Nat, i ≤ 8 ∧ v = .int .i64 i ∧ At wr g6 58 (icells (padH (WB.take i))) ∧ At wr g7 58 (icells firstL) ∧ (N < 64 → WB.take i = firstL.take i) ∧ Fr [] w wr) (fun v _ => 8 - (RowKit.intOf v).toNat)
          case atStart => exact ⟨0, by omega, rfl, A6s, A7s, fun _ => rfl, FW⟩
          case round =>
            clear A6s A7s FW
            obtain ⟨i, hi, rfl, hA, hB, hE, hF⟩ := hrel
            obtain ⟨hNS, hbad, hn, hWB⟩ := HB.out
            obtain ⟨hS, hSl, hT, hTl, hN, h40⟩ := HS.out
            have hWl : WB.length = 8 := by rw [hWB]; exact wordsB_len 8 _ (by simp; omega)
            by_cases hl : i < 8
            · obtain ⟨a, b, c, d, r, hd, hgt⟩ := wordsB_get i (S.take 32) (by simp; omega)
              have hd2 : S.drop (4 * i) = a :: b :: c :: d :: (r ++ S.drop 32) := by
                have e : S.drop (4 * i) = (S.take 32).drop (4 * i) ++ S.drop 32 := by
                  conv => lhs; rw [← List.take_append_drop 32 S]
                  rw [List.drop_append_of_le_length (by simp; omega)]
                rw [e, hd]; rfl
              have hf4 := fun w => rfour_any s (4 * i) a b c d (r ++ S.drop 32) (by rw [← hS]; exact hd2) (by omega) w
              rw [← hWB] at hgt
              rw [show ((4 * i : Nat) : Int) = 4 * (i : Int) by omega] at hf4
              have l1 : (i : Int) < 8 := by omega
              have w1 : IntKind.i64.wrap (4 * (i : Int)) = 4 * (i : Int) := IntWalk.i64_in _ (by omega)
              have w2 : IntKind.i64.wrap ((i : Int) + 1) = ((i + 1 : Nat) : Int) := by rw [IntWalk.i64_in _ (by omega)]; omega
              have hk : (WB.take i).length = i := by simp; omega
              have hset := padH_set (WB.take i) (be4 a b c d) (by omega)
              rw [hk] at hset
              have htk : WB.take (i + 1) = WB.take i ++ [be4 a b c d] := by rw [List.take_add_one, hgt]; rfl
              rw [← htk] at hset
              have hpl := padH_len (WB.take i) (by omega)
              have hfl : firstL[i]? = some (firstL.getD i 0) := by rw [List.getD, List.getElem?_eq_getElem (by show i < 8; omega)]; rfl
              have hq : ∀ w', Fr [] wr w' → w'.cell? ⟨g6, i, none⟩ = some (.int .i64 (wd ((padH (WB.take i)).getD i 0))) ∧ w'.frozen? ⟨g6, i, none⟩ = false := fun w' f => by
                have h1 := f.keep hA (by simp)
                refine ⟨?_, h1.frozen i⟩
                rw [h1.cell, icells_get _ _ (by omega)]
              generalize (padH (WB.take i)).getD i 0 = old at hq
              generalize be4 a b c d = x at hf4 hset hgt htk
              have hcs := icells_set (padH (WB.take i)) i x
              rw [hset] at hcs
              have hft : firstL.take (i + 1) = firstL.take i ++ [firstL.getD i 0] := by rw [List.take_add_one, hfl]; rfl
              have hf7 : (icells firstL)[i]? = some (.int .i64 (wd (firstL.getD i 0))) := icells_get _ _ (by show i < 8; omega)
              generalize firstL.getD i 0 = y at hfl hft hf7
              have HX := Lib.hid (And.intro htk (And.intro hft (And.intro hgt (And.intro hfl hE))))
              have HC := Lib.hid hcs
              clear hset hcs hgt htk hft hfl hpl hk hd2 hd hNS hbad hn hWB hS hSl hT hTl hN h40 hWl hE
              go_upto_region 18 with (first
                | (go_at_call 51; refine (hf4 _).mono ?_; clear hf4; rintro _ w3 ⟨rfl, f3⟩; obtain ⟨c6, z6⟩ := hq _ f3; clear hq)
                | fail)
              obtain ⟨hg1, hg2⟩ := HG.out
              have hA3 := (f3.keep hA (by simp)).setCell i (.int .i64 (wd x))
              have c6' : _ := hA3.cell i
              rw [List.getElem?_set_self (by rw [icells_len]; exact Nat.lt_of_lt_of_le hl (by simp [padH]; omega)), ] at c6'
              rw [HC.out] at hA3
              have hB3 := (f3.keep hB (by simp)).setCell_other (a := ⟨g6, i, none⟩) (by simp; omega) (.int .i64 (wd x))
              have c7' := hB3.cell i
              rw [hf7] at c7'
              have F3 := (hF.trans f3).new (S := [g6]) (Fr.setCell [g6] w3 ⟨g6, i, none⟩ (.int .i64 (wd x)) (.inl (by simp))) (by simp; exact hg1)
              generalize w3.setCell ⟨g6, i, none⟩ (.int .i64 (wd x)) = W4 at hA3 hB3 c6' c7' F3 ⊢
              have n6 : True := trivial
              clear c6 z6 f3 hA hB hF hg1 hg2 hf7
              by_cases hN : N < 64
              · have l2 : (N : Int) < 64 := by omega
                by_cases hxy : x = y
                · subst hxy
                  have HN := Lib.hid hN
                  clear hN
                  go_quiet (fail)
                  go_wp2_with fail
                  obtain ⟨htk, hft, hgt, hfl, hE⟩ := HX.out
                  exact ⟨⟨i + 1, by omega, by simp, hA3.drewN _, hB3.drewN _, fun h => by rw [htk, hft, hE h], F3.trans (Fr.drewN _ _ _)⟩, by simp only [RowKit.intOf]; omega⟩
                · have l3 : ¬ wd x = wd y := fun h => hxy (wd_inj h)
                  have HN := Lib.hid (And.intro hN hxy)
                  clear hN hxy
                  go_quiet (fail)
                  go_wp2_with fail
                  obtain ⟨htk, hft, hgt, hfl, hE⟩ := HX.out
                  obtain ⟨hN, hxy⟩ := HN.out
                  obtain ⟨hNS, hbad, hn, hWB⟩ := HB.out
                  obtain ⟨hS, hSl, hT, hTl, hN2, h40⟩ := HS.out
                  have hW : wordsB (S.take 32) ≠ firstL := by
                    intro h
                    rw [hWB, h, hfl] at hgt
                    exact hxy (Option.some.inj hgt).symm
                  have e : restP S = none := by unfold restP; rw [if_neg (by omega), if_neg (by omega), if_pos ⟨by omega, hW⟩]
                  go_ret2
                  rw [e]
                  exact ⟨rfl, F3.trans (Fr.drewN _ _ _)⟩
              · have l2 : ¬ (N : Int) < 64 := by omega
                have l3 : decide ((N : Int) < 64) = false := decide_eq_false l2
                have HN := Lib.hid hN
                clear hN
                go_quiet (fail)
                go_wp2_with fail
                exact ⟨⟨i + 1, by omega, by simp, hA3.drewN _, hB3.drewN _, fun h => absurd h HN.out, F3.trans (Fr.drewN _ _ _)⟩, by simp only [RowKit.intOf]; omega⟩
            · obtain rfl : i = 8 := by omega
              have l1 : ¬ ((8 : Nat) : Int) < 8 := by omega
              have hW8 : WB.take 8 = WB := List.take_of_length_le (by omega)
              have hpp : padH WB = WB := by unfold padH; rw [hWl]; simp
              rw [hW8, hpp] at hA
              have hres : restP S = some (WB, S.drop 40, N) := by
                have e1 : ¬ (numS S < 64 ∧ WB ≠ firstL) := by
                  rintro ⟨h1, h2⟩
                  have := hE (by omega)
                  rw [hW8] at this
                  exact h2 this
                unfold restP
                rw [if_neg (by omega), if_neg (by omega), ← hWB, if_neg e1, ← hNS]
              obtain ⟨R, hR⟩ : ∃ R : ByteArray, R = s.extract 40 s.size := ⟨_, rfl⟩
              have hRd : R = ⟨(S.drop 40).toArray⟩ := by
                rw [hR]
                apply ByteArray.ext
                apply Array.toList_inj.1
                rw [extract_rest _ _ _ rfl, hS]
              obtain ⟨M, hM⟩ : ∃ M, M = N - N % 64 := ⟨_, rfl⟩
              have w7 : (N : Int).tmod 64 = ((N % 64 : Nat) : Int) := by rw [Int.tmod_eq_emod_of_nonneg (by omega)]; omega
              have w8 : IntKind.i64.wrap ((N % 64 : Nat) : Int) = ((N % 64 : Nat) : Int) := IntWalk.i64_in _ (by omega)
              have w9 : IntKind.i64.wrap ((N : Int) - ((N % 64 : Nat) : Int)) = (M : Int) := by rw [show (N : Int) - ((N % 64 : Nat) : Int) = (M : Int) by omega]; exact IntWalk.i64_in _ (by omega)
              have w10 : wrap64 ((N : Int) - (N : Int) % 64) = (M : Int) := by
                rw [show (N : Int) - (N : Int) % 64 = (M : Int) by omega]; exact IntWalk.wrap64_in _ (by omega)
              have w11 : IntKind.i64.wrap ((N : Int) - (N : Int) % 64) = (M : Int) := by rw [show (N : Int) - (N : Int) % 64 = (M : Int) by omega]; exact IntWalk.i64_in _ (by omega)
              have k1 : (40 : Int) ≤ s.size := by omega
              have eR := hR.symm
              have ld : ∀ w', At w' g6 58 (icells WB) → (loadVar 58 ⟨g6, 0, none⟩).run Tryd.prog w' = .ok (.agg (icells WB).toArray) w' := fun w' h => eight_var hWl h
              have hone := icells_one WB
              have hbuilt : (rcells WB M R).length = 10 := by simp [rcells, icells_len, hWl]
              have HR := Lib.hid (And.intro hres (And.intro hRd hM))
              clear hres hRd hM hNS hbad hn hWB hS hSl hT hTl hN h40 hE hR
              go_wp2_with fail
              refine wp_region_until (fun w' => (loadVar 58 ⟨g6, 0, none⟩).run Tryd.prog w' = .ok (.agg (icells WB).toArray) w') (fun _ => True) 1000 (by rfl) ?_
              have hT1 : True := trivial
              have s0 := ld _ hA.drew
              refine until_s0 1 (v := ?_) rfl (by kernel_rfl) (fun _ _ _ h => h) (Or.inl ⟨by rfl, ?_⟩) (by assumption) (fun h => by first | assumption | exact absurd (h : true = false) (by decide)) ?_
              rotate_left
              · intro w hSw; (try dsimp only at hSw); (try go_simp); (try with_reducible rfl)
              try simp only [Act.put, List.setIfInBounds_toArray, List.set_cons_zero, List.set_cons_succ]
              refine until_s0 2 (v := ?_) rfl (by kernel_rfl) (fun _ _ _ h => h) (Or.inl ⟨by rfl, ?_⟩) (by assumption) (fun h => by first | assumption | exact absurd (h : true = false) (by decide)) ?_
              rotate_left
              · intro w hSw; (try dsimp only at hSw); (try go_simp); (try with_reducible rfl)
              try simp only [Act.put, List.setIfInBounds_toArray, List.set_cons_zero, List.set_cons_succ]
              refine until_s0 3 (v := ?_) rfl (by kernel_rfl) (fun _ _ _ h => h) (Or.inl ⟨by rfl, ?_⟩) (by assumption) (fun h => by first | assumption | exact absurd (h : true = false) (by decide)) ?_
              rotate_left
              · intro w hSw; (try dsimp only at hSw); (try go_simp); (try with_reducible rfl)
              try simp only [Act.put, List.setIfInBounds_toArray, List.set_cons_zero, List.set_cons_succ]
              refine until_s0 4 (v := ?_) rfl (by kernel_rfl) (fun _ _ _ h => h) (Or.inl ⟨by rfl, ?_⟩) (by assumption) (fun h => by first | assumption | exact absurd (h : true = false) (by decide)) ?_
              rotate_left
              · intro w hSw; (try dsimp only at hSw); (try go_simp); (try with_reducible rfl)
              try simp only [Act.put, List.setIfInBounds_toArray, List.set_cons_zero, List.set_cons_succ]
              refine until_s0 5 (v := ?_) rfl (by kernel_rfl) (fun _ _ _ h => h) (Or.inl ⟨by rfl, ?_⟩) (by assumption) (fun h => by first | assumption | exact absurd (h : true = false) (by decide)) ?_
              rotate_left
              · intro w hSw; (try dsimp only at hSw); (try go_simp); (try with_reducible rfl)
              try simp only [Act.put, List.setIfInBounds_toArray, List.set_cons_zero, List.set_cons_succ]
              refine until_s0 6 (v := ?_) rfl (by kernel_rfl) (fun _ _ _ h => h) (Or.inl ⟨by rfl, ?_⟩) (by assumption) (fun h => by first | assumption | exact absurd (h : true = false) (by decide)) ?_
              rotate_left
              · intro w hSw; (try dsimp only at hSw); (try go_simp); (try with_reducible rfl)
              try simp only [Act.put, List.setIfInBounds_toArray, List.set_cons_zero, List.set_cons_succ]
              refine until_s0 0 (v := .agg (icells WB).toArray) rfl (by kernel_rfl) (fun _ _ _ h => h) (Or.inl ⟨by rfl, fun w' hS => exec_load rfl rfl hS⟩) (by assumption) (fun h => by first | assumption | exact absurd (h : true = false) (by decide)) ?_
              try simp only [Act.put, List.setIfInBounds_toArray, List.set_cons_zero, List.set_cons_succ]
              refine until_sole 7 rfl (by kernel_rfl) (by rfl) ?_
              intro K' hK
              refine wp_built _ _ rfl (rcells WB M R).toArray (by rw [List.map_toArray]; exact rcells_built WB M R hWl) ?_
              refine hK _ _ s0 (fun _ => trivial) ?_
              clear hK
              have A8 := At.alloc_new wr.drew 82 (rcells WB M R).toArray
              rw [List.toList_toArray] at A8
              have F8 := Fr.alloc [] wr.drew (.cells (rcells WB M R).toArray 82)
              refine until_sole 8 rfl (by kernel_rfl) (by rfl) ?_
              intro K' hK
              go_simp
              refine hK _ _ (ld _ (hA.drew.alloc _)) (fun _ => trivial) ?_
              clear hK
              have s1 := ld _ ((hA.drew).alloc (.cells (rcells WB M R).toArray 82))
              refine until_s0 9 (v := ?_) rfl (by kernel_rfl) (fun _ _ _ h => h) (Or.inl ⟨by rfl, ?_⟩) (by assumption) (fun h => by first | assumption | exact absurd (h : true = false) (by decide)) ?_
              rotate_left
              · intro w hSw; (try dsimp only at hSw); (try go_simp); (try with_reducible rfl)
              try simp only [Act.put, List.setIfInBounds_toArray, List.set_cons_zero, List.set_cons_succ]
              refine until_s0 10 (v := ?_) rfl (by kernel_rfl) (fun _ _ _ h => h) (Or.inl ⟨by rfl, ?_⟩) (by assumption) (fun h => by first | assumption | exact absurd (h : true = false) (by decide)) ?_
              rotate_left
              · intro w hSw; (try dsimp only at hSw); (try go_simp); (try with_reducible rfl)
              try simp only [Act.put, List.setIfInBounds_toArray, List.set_cons_zero, List.set_cons_succ]
              refine until_done (by kernel_rfl) ?_ _
              go_wp2_with fail
              go_ret2
              obtain ⟨hres, hRd, hM⟩ := HR.out
              rw [hres]
              have F9 := (hF.trans (Fr.drew _ _)).trans F8
              refine ⟨_, rfl, hF.size, ?_, F9⟩
              rw [← hRd, ← hM]
              exact A8
end Go.Proofs.YtkagmoaapampgaaDoor
