/- The law SealTable walked. -/
import Derived.Test.YthalpgandfbkdaaIdlS
import Derived.Test.YthalpgandfbkdaaIdlU
namespace Go.Proofs.Ythalpgandfbkdaa
open Go.RowKit Go.Lib Go.Joins Base Go.Maps
set_option linter.unusedVariables false
set_option linter.unusedSimpArgs false

set_option maxRecDepth 100000 in
set_option maxHeartbeats 4000000 in
theorem table_law0 {w : World} (v : Value) (bs : List Bx) (hv : IsBoxes w v bs) (v2 : Value) (ms : List Bx) (hv2 : IsBoxes w v2 ms) (hbn : bs.length ≤ 1048576) (hmn : ms.length ≤ 1048576) :
    Calls Try.prog 5 #[v, v2] w fun e w' => e = .returned (.bool true) ∧ Fr [] w w' := by
  go_enter Try.func5, Try.ntmps5
  go_upto_region 4 with (first
    | (go_at_call 6; refine (new_any _).mono ?_; rintro e w1 ⟨p, b, rfl, hpb, hp, hb, A1, T1, f1⟩)
    | (go_at_call 7; refine (num8_any _ _).mono ?_; rintro e w2 ⟨rfl, rfl⟩)
    | fail)
  have hI1 : Idl w1 w.heap.size p b (.slice none 0 0) [] (fun _ => 0) := ⟨A1, ⟨rfl, .inl ⟨rfl, rfl⟩⟩, Tab.made T1⟩
  have c1 := first_any v bs w1 (hv.keep f1)
  obtain ⟨L, hL⟩ : ∃ L, L = LL (box0 :: bs) := ⟨_, rfl⟩
  have hLn : L.length = bs.length + 1 := by rw [hL, LL_len]; rfl
  have hLf : Fine L := by rw [hL]; exact LL_fine _
  have hLr : Rowed (L.map rowOf) := by rw [hL]; exact LL_rowed _
  have c2 := fun vB w' h1 h2 h3 => laid_any w.heap.size p b vB (box0 :: bs) (by simp; omega) (fun _ => 0) good_none w' h1 ⟨hp, hb⟩ h2 h3
  rw [← hL] at c2
  have HT := Lib.hid hv2
  have HP := Lib.hid (And.intro hp (And.intro hb hpb))
  have HL := Lib.hid (And.intro hLn (And.intro hLf hLr))
  have hs1 := f1.size
  clear hL hv A1 T1 hv2 hp hb hpb hLn hLf hLr
  go_upto_region 5 with (first
    | (go_at_call 14; refine c1.mono ?_; clear c1; rintro e w2 ⟨vB, rfl, oB, f2⟩)
    | (go_at_call 13; refine (c2 vB _ (Nat.le_trans hs1 f2.size) (hI1.fr f2 (by simp) (by simp) (by simp)) (own_mono oB hs1)).mono ?_; clear c2; rintro e w3 ⟨vL, vr, F, rfl, oL, hI, hG, hBl⟩)
    | fail)
  have F3 : Fr [] w w3 := fr_trans_below (f1.trans f2) hBl
  clear hI1 f1 f2 oB hs1 hBl
  have hLn := HL.out.1
  rw [show (box0 :: bs).length = L.length by rw [hLn]; rfl] at oL
  have hsub : ∀ (j : Nat) (x : La), L[j]? = some x → (L.map rowOf)[j]? = some (rowOf x) := fun j x h => by rw [List.getElem?_map, h]; rfl
  have hrl : (L.map rowOf).length = L.length := List.length_map _
  have hro := HL.out.2.2
  generalize L.map rowOf = R at hI hG hsub hrl hro
  have c3 := table2_any w.heap.size p b vr R F (by omega) (by omega) w3 hI
  have c4 := fun g w' h1 h2 => newList_any R F hG (by omega) hro g w' h1 h2
  have HR := Lib.hid hrl
  have HS := Lib.hid hsub
  clear hsub
  have HN := Lib.hid hLn
  have s3 := F3.size
  clear hrl hLn
  go_upto_region 8 with (first
    | (go_at_call 12; refine c3.mono ?_; clear c3; rintro e w4 ⟨g, rfl, R4, hg1, hg2, f4⟩)
    | (go_at_call 6; refine (c4 g _ R4 hg2).mono ?_; clear c4; rintro e w5 ⟨p2, b2, vt, F2, rfl, hpb2, hp2, hb2, I2, G2, hvt, f5⟩)
    | fail)
  obtain rfl := good_unique _ F F2 hG G2
  have s4 := f4.size
  have T5 : Two w5 w.heap.size p b p2 b2 vr vt R R F F :=
    ⟨(hI.fr f4 (by simp) (by simp) (by simp)).fr f5 (by simp) (by simp) (by simp), I2.mono (Nat.le_trans s3 s4), by have := hI.at_.lt; omega, by have := hI.tab.lt; omega, fun x h1 h2 => by have := hI.own_lt x h1; have := hvt x h2; omega⟩
  have L5 := own_fr (own_fr oL f4 (by simp)) f5 (by simp)
  have F5 := (F3.trans f4).trans f5
  have HP2 := Lib.hid (And.intro (Nat.le_trans s3 (Nat.le_trans s4 hp2)) (Nat.le_trans s3 (Nat.le_trans s4 hb2)))
  clear hI oL F3 R4 hg1 hg2 f4 f5 I2 G2 hvt s3 s4 hpb2 hp2 hb2
  have d1 := fun (w' : World) (h : Two w' w.heap.size p b p2 b2 vr vt R R F F) => table2_any w.heap.size p b vr R F (by have := HR.out; have := HN.out; omega) (by have := HR.out; have := HN.out; omega) w' h.i1
  have d2 := fun (w' : World) (h : Two w' w.heap.size p b p2 b2 vr vt R R F F) => table2_any w.heap.size p2 b2 vt R F (by have := HR.out; have := HN.out; omega) (by have := HR.out; have := HN.out; omega) w' h.i2
  have d3 := fun g g2 w' => same_any g g2 R (by have := HR.out; have := HN.out; omega) w'
  have d4 := fun w' => back_gen w.heap.size p2 b2 vL vt L (by have := HN.out; omega) R (by have := HR.out; have := HN.out; omega) HS.out F hG HL.out.2.1 w'
  go_upto_region 11 with (first
    | (go_at_call 16; refine (d4 _ (T9.i2) L9).mono ?_; clear d4; rintro e w10 ⟨rfl, f10⟩; have T10 := T9.fr f10; have L10 := own_fr L9 f10 (by simp); have F10 := F9.trans f10)
    | (go_at_call 17; refine (d3 g3 g4 _ R7 R8 z7 z8).mono ?_; clear d3; rintro e w9 ⟨rfl, f9⟩; have T9 := T8.fr f9; have L9 := own_fr L8 f9 (by simp); have F9 := F8.trans f9)
    | (go_at_call 12; refine (d2 _ T7).mono ?_; clear d2; rintro e w8 ⟨g4, rfl, R8, _, z8, f8⟩; have T8 := T7.fr f8; have L8 := own_fr L7 f8 (by simp); have F8 := F7.trans f8; have R7 := R6.fr f8 z6 (by simp); have z7 := Nat.lt_of_lt_of_le z6 f8.size)
    | (go_at_call 12; refine (d1 _ T5).mono ?_; clear d1; rintro e w7 ⟨g3, rfl, R6, _, z6, f7⟩; have T7 := T5.fr f7; have L7 := own_fr L5 f7 (by simp); have F7 := F5.trans f7)
    | (go_at_call 7; refine (num8_any 0 _).mono ?_; rintro e w6 ⟨rfl, rfl⟩)
    | fail)
  obtain ⟨a2, c22, rfl⟩ : ∃ ao c, v2 = .slice ao ms.length c := by
    obtain ⟨⟨rfl, rfl⟩ | ⟨ad, cap, rfl, _⟩, _⟩ := HT.out
    · exact ⟨none, 0, rfl⟩
    · exact ⟨some ad, cap, rfl⟩
  have rel0 : ∃ (i : Nat) (rs : List Rw) (F' : ByteArray → Int) (u u2 : Value), i ≤ ms.length ∧ Value.int .i64 0 = .int .i64 i ∧ Two w10 w.heap.size p b p2 b2 u u2 rs rs F' F' ∧ Good rs F' ∧ rs.length ≤ L.length + i ∧ 0 < rs.length ∧ (∀ (j : Nat) (x : La), L[j]? = some x → rs[j]? = some (rowOf x)) ∧ w10.ownsRow w.heap.size 46 5 vL L.length (L.flatMap laC) ∧ Fr [] w w10 :=
    ⟨0, R, F, vr, vt, by omega, rfl, T10, hG, by have := HR.out; omega, by have := HR.out; have := HN.out; omega, HS.out, L10, F10⟩
  clear T10 L10 F10 hG hro HR HS T5 L5 F5 T7 L7 F7 R6 z6 T8 L8 F8 R7 R8 z7 z8 T9 L9 F9
  go_loopw [11] (fun v11 wr => ∃ (i : Nat) (rs : List Rw) (F' : ByteArray → Int) (u u2 : Value), i ≤ ms.length ∧ v11 = .int .i64 i ∧ Two wr w.heap.size p b p2 b2 u u2 rs rs F' F' ∧ Good rs F' ∧ rs.length ≤ L.length + i ∧ 0 < rs.length ∧ (∀ (j : Nat) (x : La), L[j]? = some x → rs[j]? = some (rowOf x)) ∧ wr.ownsRow w.heap.size 46 5 vL L.length (L.flatMap laC) ∧ Fr [] w wr) (fun v _ => ms.length - (RowKit.intOf v).toNat)
  case atStart => exact rel0
  case round =>
    clear rel0
    obtain ⟨i, rs, F', u, u2, hi, rfl, hT, hG, hrl, hr0, hsub, oL, hF⟩ := hrel
    have HS := Lib.hid (And.intro hG (And.intro hrl (And.intro hr0 hsub)))
    clear hG hrl hr0 hsub
    by_cases hl : i < ms.length
    · have l1 : (i : Int) < ms.length := by omega
      obtain ⟨bx, hbx⟩ : ∃ bx, ms[i]? = some bx := ⟨_, List.getElem?_eq_getElem hl⟩
      obtain ⟨gt, off, cap', e1, q0, q1, q2, q3⟩ := (HT.out.keep hF).at i bx hbx
      injection e1 with e1 _ e2
      subst e1 e2
      have q0 : wr.cell? ⟨gt, off + i * 4, none⟩ = some (.int .i64 bx.k) := q0
      have q1 : wr.cell? ⟨gt, off + i * 4 + 1, none⟩ = some (.string bx.name) := by rw [Nat.add_assoc]; exact q1
      have q2 : wr.cell? ⟨gt, off + i * 4 + 2, none⟩ = some (.string bx.text) := by rw [Nat.add_assoc]; exact q2
      have q3 : wr.cell? ⟨gt, off + i * 4 + 3, none⟩ = some (.int .i64 bx.seed) := by rw [Nat.add_assoc]; exact q3
      have cW : Calls Try.prog 18 #[.agg #[.int .i64 bx.k, .string bx.name, .string bx.text, .int .i64 bx.seed]] wr fun e w' => e = .returned (.agg #[.int .i64 (withinB bx).k, .string (withinB bx).name, .string (withinB bx).text, .int .i64 (withinB bx).seed]) ∧ Fr [] wr w' := within_any bx wr
      have hts := cutB_size bx.text 4096
      have hns := cutB_size bx.name 64
      have hkk := withinB_k bx
      obtain ⟨X, hX⟩ : ∃ X, X = withinB bx := ⟨_, rfl⟩
      have hXt : X.text.size ≤ 4096 := by rw [hX]; exact hts
      have hXn : X.name.size ≤ 64 := by rw [hX]; exact hns
      rw [← hX] at cW hkk
      clear hX hts hns hbx
      go_upto_region 14 with (first
        | (go_at_call 18; refine cW.mono ?_; clear cW; rintro e w1' ⟨rfl, f1⟩)
        | fail)
      have hsz1 := f1.size
      obtain ⟨t12, ht12⟩ : ∃ t, t = w1'.heap.size := ⟨_, rfl⟩
      have A0 := At.alloc_new w1' 44 #[.int .i64 X.k, .string X.name, .string X.text, .int .i64 X.seed]
      have fA := f1.trans (Fr.alloc [] w1' (.cells #[Value.int .i64 X.k, .string X.name, .string X.text, .int .i64 X.seed] 44))
      rw [← ht12] at A0 ⊢
      have T1 := hT.fr fA
      have L1 := own_fr oL fA (by simp)
      have F1 := hF.trans fA
      generalize w1'.alloc (.cells #[Value.int .i64 X.k, .string X.name, .string X.text, .int .i64 X.seed] 44) = W at A0 T1 L1 F1 ⊢
      clear fA f1 hT oL hF q0 q1 q2 q3 ht12 hsz1
      have w1000 : IntKind.i64.wrap (1000 + (i : Int)) = ((1000 + i : Nat) : Int) := by rw [IntWalk.i64_in _ (by omega)]; omega
      have w1000' : wrap64 (1000 + (i : Int)) = ((1000 + i : Nat) : Int) := by rw [IntWalk.wrap64_in _ (by omega)]; omega
      obtain ⟨ni, hni⟩ : ∃ ni, ni = 1000 + i := ⟨_, rfl⟩
      rw [← hni] at w1000 w1000'
      obtain ⟨G, hGd⟩ : ∃ G : World → Prop, G = fun w' => Fr [] W w' := ⟨_, rfl⟩
      have gW : ∀ w', G w' ↔ Fr [] W w' := fun w' => by rw [hGd]
      clear hGd
      have g2 : ∀ y : Gw G, Fr [] W y.w := fun y => (gW _).1 y.ok
      have a2' : ∀ y : Gw G, y.w.cell? ⟨t12, 2, none⟩ = some (.string X.text) := fun y => ((g2 y).keep A0 (by simp)).cell 2
      have a3' : ∀ y : Gw G, y.w.cell? ⟨t12, 3, none⟩ = some (.int .i64 X.seed) := fun y => ((g2 y).keep A0 (by simp)).cell 3
      have c1 := fun y : Gw G => coins_any p X.text.size [u, .map (some b)] (by omega) y.w ((g2 y).keep T1.i1.at_ (by simp))
      have c2 := fun y : Gw G => coins8_any (X.text.size + 40) X.seed ni (by omega) (by omega) y.w
      rw [show ((X.text.size + 40 : Nat) : Int) = (X.text.size : Int) + 40 from by omega] at c2
      obtain ⟨c, hc⟩ : ∃ c : ByteArray, c = ⟨(coinL (X.text.size + 40) (modN X.seed 1000003) ni).toArray⟩ := ⟨_, rfl⟩
      rw [← hc] at c2
      have hcs : c.size = X.text.size + 40 := by
        rw [hc]; show (coinL _ _ _).toArray.size = _; rw [List.size_toArray, coinL_len]
      have g1 : ∀ (y : Gw G) w', Fr [] y.w w' → G w' := fun y w' f => (gW _).2 ((g2 y).trans f)
      have g0 : G W.drew := (gW _).2 (Fr.drew _ _)
      have ne : Nonempty (Gw G) := ⟨⟨_, g0⟩⟩
      have HCS := Lib.hid hcs
      clear hni hc hcs
      refine wp_region_gw G (by kernel_rfl) (by kernel_rfl) g0 ?_
      repeat (go_big_quiet_step (first
        | (go_at_call 20; exact gw_call (c1 _) (g1 _))
        | (go_at_call 19; exact gw_call (c2 _) (g1 _))))
      refine wpQuiet_nil ?_
      rintro _ ⟨y, rfl⟩
      have fy := g2 y
      have A2 := fy.keep A0 (by simp)
      have T2 := T1.fr fy
      have L2 := own_fr L1 fy (by simp)
      have F2 := F1.trans fy
      generalize y.w = W2 at A2 T2 L2 F2 ⊢
      clear a2' a3' c1 c2 g1 g0 ne gW g2 A0 T1 L1 F1 fy w1000 w1000'
      have r1 := fun t => remN i 2 (by omega) t
      rw [show ((2 : Nat) : Int) = 2 from rfl] at r1
      go_upto_if 92 with fail
      go_cut [13] from 69 to 154 (fun v13 wx => ∃ c : ByteArray, v13 = Value.string c ∧ c.size = X.text.size + 40 ∧ At wx t12 44 [.int .i64 X.k, .string X.name, .string X.text, .int .i64 X.seed] ∧ Two wx w.heap.size p b p2 b2 u u2 rs rs F' F' ∧ wx.ownsRow w.heap.size 46 5 vL L.length (L.flatMap laC) ∧ Fr [] w wx)
      case first =>
        rcases Nat.mod_two_eq_zero_or_one i with hp | hp
        · have z1 : ¬ ((i % 2 : Nat) : Int) = 1 := by omega
          have z2 : (((i : Int) % 2) == 1) = false := by simp; omega
          clear hp
          go_wp2_with fail
          go_meet
          case rel => exact ⟨c, rfl, HCS.out, A2, T2, L2, F2⟩
        · have z1 : ((i % 2 : Nat) : Int) = 1 := by omega
          have z2 : (((i : Int) % 2) == 1) = true := by simp; omega
          clear hp
          go_upto_region 16 with fail
          obtain ⟨G, hGd⟩ : ∃ G : World → Prop, G = fun w' => Fr [] W2 w' := ⟨_, rfl⟩
          have gW : ∀ w', G w' ↔ Fr [] W2 w' := fun w' => by rw [hGd]
          clear hGd
          have g2 : ∀ y : Gw G, Fr [] W2 y.w := fun y => (gW _).1 y.ok
          have a2' : ∀ y : Gw G, y.w.cell? ⟨t12, 2, none⟩ = some (.string X.text) := fun y => ((g2 y).keep A2 (by simp)).cell 2
          have a3' : ∀ y : Gw G, y.w.cell? ⟨t12, 3, none⟩ = some (.int .i64 X.seed) := fun y => ((g2 y).keep A2 (by simp)).cell 3
          have c1 := fun y : Gw G => coins_any p X.text.size [u, .map (some b)] (by omega) y.w ((g2 y).keep T2.i1.at_ (by simp))
          have c2 := fun y : Gw G => coins8_any (X.text.size + 40) X.seed 0 (by omega) (by omega) y.w
          rw [show ((X.text.size + 40 : Nat) : Int) = (X.text.size : Int) + 40 from by omega, show ((0 : Nat) : Int) = 0 from rfl] at c2
          obtain ⟨c', hc⟩ : ∃ c : ByteArray, c = ⟨(coinL (X.text.size + 40) (modN X.seed 1000003) 0).toArray⟩ := ⟨_, rfl⟩
          rw [← hc] at c2
          have hcs' : c'.size = X.text.size + 40 := by
            rw [hc]; show (coinL _ _ _).toArray.size = _; rw [List.size_toArray, coinL_len]
          have g1 : ∀ (y : Gw G) w', Fr [] y.w w' → G w' := fun y w' f => (gW _).2 ((g2 y).trans f)
          have g0 : G W2.drew := (gW _).2 (Fr.drew _ _)
          have ne : Nonempty (Gw G) := ⟨⟨_, g0⟩⟩
          have HCS' := Lib.hid hcs'
          clear hc hcs'
          refine wp_region_gw G (by kernel_rfl) (by kernel_rfl) g0 ?_
          repeat (go_big_quiet_step (first
            | (go_at_call 20; exact gw_call (c1 _) (g1 _))
            | (go_at_call 19; exact gw_call (c2 _) (g1 _))))
          refine wpQuiet_nil ?_
          rintro _ ⟨y, rfl⟩
          have fy := g2 y
          have A3 := fy.keep A2 (by simp)
          have T3 := T2.fr fy
          have L3 := own_fr L2 fy (by simp)
          have F3 := F2.trans fy
          generalize y.w = W3 at A3 T3 L3 F3 ⊢
          clear a2' a3' c1 c2 g1 g0 ne gW g2 A2 T2 L2 F2 fy
          go_wp2_with fail
          go_meet
          case rel => exact ⟨c', rfl, HCS'.out, A3, T3, L3, F3⟩
      case rest =>
        obtain ⟨c, rfl, hcs, A3, T3, L3, F3⟩ := hcut
        clear A2 T2 L2 F2 HCS r1
        have hn : rs.length ≤ 4194304 := by have := HS.out.2.1; have := HN.out; omega
        have hT : tagX c = tagB c := tagX_big c (by omega)
        have lT := str_eq (rfl : c = c)
        have hww : w.heap.size ≤ wc.heap.size := F3.size
        have q0 := A3.cell 0
        have q1 := A3.cell 1
        have q2 := A3.cell 2
        have w1i : IntKind.i64.wrap ((i : Int) + 1) = ((i + 1 : Nat) : Int) := by rw [IntWalk.i64_in _ (by omega)]; omega
        by_cases hf : F' (tagB c) = 0
        · have c1 := fun (w' : World) h1 h2 => seal_ok2 X.k hkk w.heap.size p b u rs F' X.name X.text c hXn hcs.symm (by omega) hn hf w' h1 h2
          have c2 := fun (w' : World) (h : Idl w' w.heap.size p2 b2 u2 rs F') => open_none X.k hkk X.name c hXn (by omega) (F := F') (by rw [hT]; exact hf) w' h
          have c3 := fun (w' : World) h1 h2 => seal_ok2 X.k hkk w.heap.size p2 b2 u2 rs F' X.name X.text c hXn hcs.symm (by omega) hn hf w' h1 h2
          have hgp := good_push rs (X.k, X.name, c, X.text) F' HS.out.1 (by show F' (tagX c) = 0; rw [hT]; exact hf)
          have HGP := Lib.hid hgp
          have HTT := Lib.hid hT
          have sA := at_idl A3 T3.i1 (by decide) (by decide)
          have sA2 := at_idl A3 T3.i2 (by decide) (by decide)
          clear hgp hT hf hcs
          go_upto_region 18 with (first
            | (go_at_call 10; refine (c1 _ T3.i1 hww).mono ?_; clear c1; rintro e w4' ⟨u', rfl, I4, f4, ob4⟩)
            | fail)
          have T4 := T3.sealed f4 I4 ob4
          have A4 := f4.keep A3 (by simp only [List.mem_cons, not_or]; exact ⟨sA.1, sA.2.1, sA.2.2⟩)
          have L4 := own_fr L3 f4 (fun g hg => by simp only [List.mem_cons, not_or]; exact own_idl L3 T3.i1 (by decide) (by decide) (by rw [hg]; simp))
          have F4 := F3.new f4 (by
            intro x hx
            simp only [List.mem_cons] at hx
            rcases hx with rfl | rfl | hx
            · exact HP.out.1
            · exact HP.out.2.1
            · exact (own_block T3.i1.row hx).1)
          clear q0 q1 q2 sA sA2 I4 f4 ob4 A3 T3 L3 F3
          have q0 := A4.cell 0
          have q1 := A4.cell 1
          have q2 := A4.cell 2
          go_upto_region 19 with (first
            | (go_at_call 21; refine (c2 _ T4.i2).mono ?_; clear c2; rintro e w5' ⟨rfl, f5⟩)
            | fail)
          have T5 := T4.fr f5
          have A5 := f5.keep A4 (by simp)
          have L5 := own_fr L4 f5 (by simp)
          have F5 := F4.trans f5
          have sA := at_idl A5 T5.i2 (by decide) (by decide)
          clear q0 q1 q2 f5 A4 T4 L4 F4
          have q0 := A5.cell 0
          have q1 := A5.cell 1
          have q2 := A5.cell 2
          go_upto_region 20 with (first
            | (go_at_call 10; refine (c3 _ T5.i2 F5.size).mono ?_; clear c3; rintro e w6' ⟨u2', rfl, I6, f6, ob6⟩)
            | fail)
          have T6 := (T5.swap.sealed f6 I6 ob6).swap
          have L6 := own_fr L5 f6 (fun g hg => by simp only [List.mem_cons, not_or]; exact own_idl L5 T5.i2 (by decide) (by decide) (by rw [hg]; simp))
          have F6 := F5.new f6 (by
            intro x hx
            simp only [List.mem_cons] at hx
            rcases hx with rfl | rfl | hx
            · exact HP2.out.1
            · exact HP2.out.2
            · exact (own_block T5.i2.row hx).1)
          clear q0 q1 q2 sA I6 f6 ob6 A5 T5 L5 F5
          go_wp2_with (first
            | (go_at_call 7; refine (num8_any _ _).mono ?_; rintro e w9' ⟨rfl, rfl⟩)
            | fail)
          refine ⟨⟨i + 1, rs ++ [(X.k, X.name, c, X.text)], _, u', u2', by omega, by simp, T6, ?_, ?_, ?_, ?_, L6, F6⟩, by simp only [RowKit.intOf]; omega⟩
          · exact Eq.mp (congrArg (fun t => Good (rs ++ [(X.k, X.name, c, X.text)]) (fun y => if y = t then ((rs.length + 1 : Nat) : Int) else F' y)) HTT.out) HGP.out
          · rw [List.length_append, List.length_singleton]; have := HS.out.2.1; omega
          · rw [List.length_append, List.length_singleton]; omega
          · intro j x hx
            have := HS.out.2.2.2 j x hx
            rw [List.getElem?_append_left (List.getElem?_eq_some_iff.1 this).1]
            exact this
        · have c1 := fun (w' : World) h1 h2 => seal_stale X.k hkk w.heap.size p b u rs F' X.name X.text c hXn hcs.symm (by omega) (by omega) hf w' h1 h2
          obtain ⟨y, d, _, cO⟩ := open_all X.k hkk X.name ⟨#[]⟩ hXn (by decide) (rs := rs) (F := F') (by omega) HS.out.1
          have c2 := fun (w' : World) (h : Idl w' w.heap.size p2 b2 u2 rs F') => cO w' h
          have c3 := fun (w' : World) h1 h2 => seal_stale X.k hkk w.heap.size p2 b2 u2 rs F' X.name X.text c hXn hcs.symm (by omega) (by omega) hf w' h1 h2
          clear hT hf hcs cO
          go_upto_region 18 with (first
            | (go_at_call 10; refine (c1 _ T3.i1 hww).mono ?_; clear c1; rintro e w4' ⟨rfl, f4⟩)
            | fail)
          have T4 := T3.fr f4
          have A4 := f4.keep A3 (by simp)
          have L4 := own_fr L3 f4 (by simp)
          have F4 := F3.trans f4
          clear q0 q1 q2 f4 A3 T3 L3 F3
          have q0 := A4.cell 0
          have q1 := A4.cell 1
          have q2 := A4.cell 2
          go_upto_region 19 with (first
            | (go_at_call 21; refine (c2 _ T4.i2).mono ?_; clear c2; rintro e w5' ⟨rfl, f5⟩)
            | fail)
          have T5 := T4.fr f5
          have A5 := f5.keep A4 (by simp)
          have L5 := own_fr L4 f5 (by simp)
          have F5 := F4.trans f5
          clear q0 q1 q2 f5 A4 T4 L4 F4
          have q0 := A5.cell 0
          have q1 := A5.cell 1
          have q2 := A5.cell 2
          go_upto_region 20 with (first
            | (go_at_call 10; refine (c3 _ T5.i2 F5.size).mono ?_; clear c3; rintro e w6' ⟨rfl, f6⟩)
            | fail)
          have T6 := T5.fr f6
          have L6 := own_fr L5 f6 (by simp)
          have F6 := F5.trans f6
          clear q0 q1 q2 f6 A5 T5 L5 F5
          go_wp2_with (first
            | (go_at_call 7; refine (num8_any _ _).mono ?_; rintro e w9' ⟨rfl, rfl⟩)
            | fail)
          exact ⟨⟨i + 1, rs, F', u, u2, by omega, by simp, T6, HS.out.1, by have := HS.out.2.1; omega, HS.out.2.2.1, HS.out.2.2.2, L6, F6⟩, by simp only [RowKit.intOf]; omega⟩
    · obtain rfl : i = ms.length := by omega
      have l1 : ¬ (ms.length : Int) < ms.length := by omega
      have hn1 : rs.length ≤ 4194304 := by have := HS.out.2.1; have := HN.out; omega
      have hn0 : 0 < rs.length := HS.out.2.2.1
      have hL1 : L.length ≤ 4398046511104 := by have := HN.out; omega
      have d1 := fun (w' : World) (h : Two w' w.heap.size p b p2 b2 u u2 rs rs F' F') => table2_any w.heap.size p b u rs F' (by omega) hn0 w' h.i1
      have d2 := fun (w' : World) (h : Two w' w.heap.size p b p2 b2 u u2 rs rs F' F') => table2_any w.heap.size p2 b2 u2 rs F' (by omega) hn0 w' h.i2
      have d3 := fun g g2 w' => same_any g g2 rs (by omega) w'
      have d4 := fun w' => back_gen w.heap.size p b vL u L hL1 rs (by omega) HS.out.2.2.2 F' HS.out.1 HL.out.2.1 w'
      have d5 := fun w' => back_gen w.heap.size p2 b2 vL u2 L hL1 rs (by omega) HS.out.2.2.2 F' HS.out.1 HL.out.2.1 w'
      clear hn1 hn0 hL1
      go_wp2_with (first
        | (go_at_call 16; refine (d5 _ (T10.i2) L10).mono ?_; clear d5; rintro e w11 ⟨rfl, f11⟩; have F11 := F10.trans f11)
        | (go_at_call 16; refine (d4 _ (T9.i1) L9).mono ?_; clear d4; rintro e w10 ⟨rfl, f10⟩; have T10 := T9.fr f10; have L10 := own_fr L9 f10 (by simp); have F10 := F9.trans f10)
        | (go_at_call 17; refine (d3 g3' g4' _ R7 R8 z7 z8).mono ?_; clear d3; rintro e w9' ⟨rfl, f9⟩; have T9 := T8.fr f9; have L9 := own_fr L8 f9 (by simp); have F9 := F8.trans f9)
        | (go_at_call 12; refine (d2 _ T7).mono ?_; clear d2; rintro e w8' ⟨g4', rfl, R8, _, z8, f8⟩; have T8 := T7.fr f8; have L8 := own_fr L7 f8 (by simp); have F8 := F7.trans f8; have R7 := R6.fr f8 z6 (by simp); have z7 := Nat.lt_of_lt_of_le z6 f8.size)
        | (go_at_call 12; refine (d1 _ hT).mono ?_; clear d1; rintro e w7' ⟨g3', rfl, R6, _, z6, f7⟩; have T7 := hT.fr f7; have L7 := own_fr oL f7 (by simp); have F7 := hF.trans f7)
        | fail)
      go_ret
      exact ⟨rfl, F11⟩
theorem table_law {H : Type} {d0 d1 : DataW H} {w : World} (v : Value) (bs : List Bx) (hv : IsBoxes w v bs ∧ bs.length ≤ Rows.uptoBulk d0) (v2 : Value) (ms : List Bx) (hv2 : IsBoxes w v2 ms ∧ ms.length ≤ Rows.uptoBulk d1) (hk : Rows.uptoSmall H [d0, d1] = true) :
    Calls Try.prog 5 #[v, v2] w fun e w' => e = .returned (.bool true) ∧ Fr [] w w' := by
  have h := of_decide_eq_true hk
  simp only [Rows.uptoBulkAll] at h
  exact table_law0 v bs hv.1 v2 ms hv2.1 (by have := hv.2; omega) (by have := hv2.2; omega)
end Go.Proofs.Ythalpgandfbkdaa
