/- The law's laid, walked. -/
import Derived.Test.YthalpgandfbkdaaIdlM
namespace Go.Proofs.Ythalpgandfbkdaa
open Go.RowKit Go.Lib Go.Joins Base Go.Maps
set_option linter.unusedVariables false
set_option linter.unusedSimpArgs false

theorem mt_coins (p : Nat) (w : World) : (method 188 23 (.pointer (some ⟨p, 0, none⟩)) "Coins").run Try.prog w = .ok (20, .pointer (some ⟨p, 0, none⟩)) w := by kernel_rfl
theorem mt_fresh (p : Nat) (w : World) : (method 188 23 (.pointer (some ⟨p, 0, none⟩)) "Fresh").run Try.prog w = .ok (9, .pointer (some ⟨p, 0, none⟩)) w := by kernel_rfl
theorem mt_seal (p : Nat) (w : World) : (method 188 23 (.pointer (some ⟨p, 0, none⟩)) "Seal").run Try.prog w = .ok (10, .pointer (some ⟨p, 0, none⟩)) w := by kernel_rfl
theorem mt_open (p : Nat) (w : World) : (method 188 23 (.pointer (some ⟨p, 0, none⟩)) "Open").run Try.prog w = .ok (21, .pointer (some ⟨p, 0, none⟩)) w := by kernel_rfl
theorem na_open (p : Nat) (w : World) : (nilAhead 188 23 (.pointer (some ⟨p, 0, none⟩)) "Open").run Try.prog w = .ok (some false) w := by kernel_rfl
set_option maxRecDepth 100000 in
set_option maxHeartbeats 4000000 in
theorem laid_any (base p b : Nat) (vB : Value) (bs : List Bx) (hn : bs.length ≤ 2932031007403) (F0 : ByteArray → Int) (hG0 : Good [] F0) (w : World) (hbase : base ≤ w.heap.size) (hpb : base ≤ p ∧ base ≤ b)
    (hI0 : Idl w base p b (.slice none 0 0) [] F0) (hB0 : w.ownsRow base 44 4 vB bs.length (bs.flatMap bxC)) :
    Calls Try.prog 13 #[.iface 23 (.pointer (some ⟨p, 0, none⟩)), vB] w fun e w' => ∃ vL vr F, e = .returned (.tuple #[vL, .bool true]) ∧
      w'.ownsRow base 46 5 vL bs.length ((LL bs).flatMap laC) ∧ Idl w' base p b vr ((LL bs).map rowOf) F ∧ Good ((LL bs).map rowOf) F ∧ Below base w w' := by
  have hi5 : (Try.prog.info? 46).map (fun i => (i.zero, i.size, i.bytes)) = some (some (.agg #[.int .i64 0, .string ByteArray.empty, .string ByteArray.empty, .int .i64 0, .string ByteArray.empty]), 5, 64) := by kernel_rfl
  obtain ⟨iS, hiS, zS0, zS1, zS2⟩ := info_parts hi5
  obtain ⟨aB, cB, rfl, haB⟩ := own_slice hB0
  have HB := Lib.hid haB
  have HP := Lib.hid hpb
  clear haB hpb
  go_enter Try.func13, Try.ntmps13
  go_wp2_with fail
  go_loopw [6, 7] (fun v6 v7 wr => ∃ (i : Nat) (F : ByteArray → Int) (vr : Value), i ≤ bs.length ∧ v7 = .int .i64 i ∧ wr.ownsRow base 46 5 v6 i (((LL bs).take i).flatMap laC) ∧ wr.ownsRow base 44 4 (.slice aB bs.length cB) bs.length (bs.flatMap bxC) ∧ Idl wr base p b vr (((LL bs).take i).map rowOf) F ∧ Good (((LL bs).take i).map rowOf) F ∧ Below base w wr) (fun _ v _ => bs.length - (RowKit.intOf v).toNat)
  case atStart => exact ⟨0, F0, .slice none 0 0, by omega, rfl, World.ownsRow_nil _ _ _ _, hB0, hI0, hG0, Below.refl _ _⟩
  case round =>
    clear hI0 hG0 hB0
    obtain ⟨i, F, vr, hi, rfl, oL, oB, hI, hG, hBl⟩ := hrel
    have hsz := hBl.size
    by_cases hl : i < bs.length
    · have l1 : (i : Int) < bs.length := by omega
      obtain ⟨bx, hbx⟩ : ∃ bx, bs[i]? = some bx := ⟨_, List.getElem?_eq_getElem hl⟩
      obtain ⟨g, rfl⟩ := HB.out (by omega)
      have hfl := flat_len bxC 4 bxC_len bs
      have hc : ∀ k, k < 4 → wr.cell? ⟨g, i * 4 + k, none⟩ = (bxC bx)[k]? := fun k hk => by
        rw [oB.cellAt (i * 4 + k) (by omega), flat_at bxC 4 bxC_len bs i bx hbx k hk]
      have q0 : wr.cell? ⟨g, i * 4, none⟩ = some (.int .i64 bx.k) := hc 0 (by omega)
      have q1 : wr.cell? ⟨g, i * 4 + 1, none⟩ = some (.string bx.name) := hc 1 (by omega)
      have q2 : wr.cell? ⟨g, i * 4 + 2, none⟩ = some (.string bx.text) := hc 2 (by omega)
      have q3 : wr.cell? ⟨g, i * 4 + 3, none⟩ = some (.int .i64 bx.seed) := hc 3 (by omega)
      have cW : Calls Try.prog 18 #[.agg #[.int .i64 bx.k, .string bx.name, .string bx.text, .int .i64 bx.seed]] wr fun e w' => e = .returned (.agg #[.int .i64 (withinB bx).k, .string (withinB bx).name, .string (withinB bx).text, .int .i64 (withinB bx).seed]) ∧ Fr [] wr w' := within_any bx wr
      have hGn := good_new bs i (withinB bx) hi (by omega) F hG
      have hGm := good_more bs i bx hbx (by omega) F hG
      have hLt := LL_take bs i bx hbx
      have hbs := blob_size i (withinB bx)
      have hts := cutB_size bx.text 4096
      have hns := cutB_size bx.name 64
      have hkk := withinB_k bx
      obtain ⟨X, hX⟩ : ∃ X, X = withinB bx := ⟨_, rfl⟩
      have hXt : X.text.size ≤ 4096 := by rw [hX]; exact hts
      have hXn : X.name.size ≤ 64 := by rw [hX]; exact hns
      rw [← hX] at cW hGn hGm hbs hkk
      have hLa : laAt i bx = (X, blobOf i X) := by rw [hX]; rfl
      rw [hLa] at hLt
      obtain ⟨c, hcb⟩ : ∃ c, c = blobOf i X := ⟨_, rfl⟩
      rw [← hcb] at hGn hGm hLt hbs
      have HH := Lib.hid (And.intro hGm (And.intro hLt (And.intro hGn hcb)))
      clear hGm hLt hGn hcb hLa hX hts hns hc hfl hbx
      have m1 := mt_coins p
      have m2 := mt_fresh p
      have m3 := mt_seal p
      go_upto_region 6 with (first
        | (go_at_call 18; refine cW.mono ?_; clear cW; rintro e w1 ⟨rfl, f1⟩)
        | fail)
      have hsz1 := f1.size
      obtain ⟨t8, ht8⟩ : ∃ t, t = w1.heap.size := ⟨_, rfl⟩
      have A8 := At.alloc_new w1 44 #[Value.int .i64 X.k, .string X.name, .string X.text, .int .i64 X.seed]
      have fA := f1.trans (Fr.alloc [] w1 (.cells #[Value.int .i64 X.k, .string X.name, .string X.text, .int .i64 X.seed] 44))
      rw [← ht8] at A8 ⊢
      have I1 : Idl (w1.alloc (.cells #[Value.int .i64 X.k, .string X.name, .string X.text, .int .i64 X.seed] 44)) base p b vr _ F := hI.fr fA (by simp) (by simp) (by simp)
      have L1 := own_fr oL fA (by simp)
      have B1 := own_fr oB fA (by simp)
      have D1 := hBl.trans (fA.below.mono (Nat.le_trans hbase hsz))
      have hA8 : base ≤ t8 := by omega
      generalize w1.alloc (.cells #[Value.int .i64 X.k, .string X.name, .string X.text, .int .i64 X.seed] 44) = W at A8 I1 L1 B1 D1 ⊢
      clear fA f1 hI oL oB hBl q0 q1 q2 q3 ht8 hsz1
      obtain ⟨G, hGd⟩ : ∃ G : World → Prop, G = Fr [] W := ⟨_, rfl⟩
      have gW : ∀ w', G w' ↔ Fr [] W w' := fun w' => by rw [hGd]
      clear hGd
      have g2 : ∀ y : Gw G, Fr [] W y.w := fun y => (gW _).1 y.ok
      have a2 : ∀ y : Gw G, y.w.cell? ⟨t8, 2, none⟩ = some (.string X.text) := fun y => ((g2 y).keep A8 (by simp)).cell 2
      have a3 : ∀ y : Gw G, y.w.cell? ⟨t8, 3, none⟩ = some (.int .i64 X.seed) := fun y => ((g2 y).keep A8 (by simp)).cell 3
      have c1 := fun y : Gw G => coins_any p X.text.size [vr, .map (some b)] (by omega) y.w ((g2 y).keep I1.at_ (by simp))
      have c2 := fun y : Gw G => coins8_any (X.text.size + 40) X.seed i (by omega) (by omega) y.w
      rw [show (⟨(coinL (X.text.size + 40) (modN X.seed 1000003) i).toArray⟩ : ByteArray) = c from HH.out.2.2.2.symm] at c2
      rw [show ((X.text.size + 40 : Nat) : Int) = (X.text.size : Int) + 40 from by omega] at c2
      have g1 : ∀ (y : Gw G) w', Fr [] y.w w' → G w' := fun y w' f => (gW _).2 ((g2 y).trans f)
      have g0 : G W.drew := (gW _).2 (Fr.drew _ _)
      have ne : Nonempty (Gw G) := ⟨⟨_, g0⟩⟩
      refine wp_region_gw G (by kernel_rfl) (by kernel_rfl) g0 ?_
      repeat (go_big_quiet_step (first
        | (go_at_call 20; exact gw_call (c1 _) (g1 _))
        | (go_at_call 19; exact gw_call (c2 _) (g1 _))))
      refine wpQuiet_nil ?_
      rintro _ ⟨y, rfl⟩
      have fy := g2 y
      have A9 := fy.keep A8 (by simp)
      have I2 := I1.fr fy (by simp) (by simp) (by simp)
      have L2 := own_fr L1 fy (by simp)
      have B2 := own_fr B1 fy (by simp)
      have hWs : base ≤ W.heap.size := by have := A8.lt; omega
      have D2 := D1.trans (fy.below.mono hWs)
      have hWs2 : base ≤ y.w.heap.size := Nat.le_trans hWs fy.size
      generalize y.w = W2 at A9 I2 L2 B2 D2 hWs2 ⊢
      clear a2 a3 c1 c2 g1 g0 ne gW g2 A8 I1 L1 B1 D1 hWs fy
      have hrl : (((LL bs).take i).map rowOf).length = i := by rw [List.length_map, List.length_take, LL_len]; omega
      have hT : tagX c = tagB c := tagX_big c (by omega)
      have hF : F (tagB c) = 0 := by rw [← hT]; exact HH.out.2.2.1
      have hcs : c.size ≤ 1048576 := by omega
      have c3 := fun w h1 h2 => fresh_any p b (((LL bs).take i).map rowOf).length vr F c (by omega) w h1 h2
      rw [hF] at c3
      have c4 := fun w h1 h2 => seal_ok X.k hkk base p b vr (((LL bs).take i).map rowOf) F X.name X.text c hXn hbs.symm hcs (by omega) hF w h1 h2
      have d0 := A9.cell 0
      have d1 := A9.cell 1
      have d2 := A9.cell 2
      have d3 := A9.cell 3
      have HS := Lib.hid (And.intro hbs (And.intro hrl (And.intro hT hkk)))
      clear hbs hrl hT hF hkk
      go_upto_region 9 with (first
        | (go_at_call 9; refine (c3 _ I2.at_ I2.tab).mono ?_; clear c3; rintro e W3 ⟨rfl, f3⟩)
        | fail)
      have A10 := f3.keep A9 (by simp)
      have I3 := I2.fr f3 (by simp) (by simp) (by simp)
      have L3 := own_fr L2 f3 (by simp)
      have B3 := own_fr B2 f3 (by simp)
      have D3 := D2.trans (f3.below.mono hWs2)
      have hWs3 : base ≤ W3.heap.size := Nat.le_trans hWs2 f3.size
      have d0 := A10.cell 0
      have d1 := A10.cell 1
      have d2 := A10.cell 2
      have d3 := A10.cell 3
      clear A9 I2 L2 B2 D2 hWs2 f3
      go_upto_region 10 with (first
        | (go_at_call 10; refine (c4 _ I3 hWs3).mono ?_; clear c4; rintro e W4 ⟨vr4, rfl, I4, f4⟩)
        | fail)
      have sA := at_idl A10 I3 (by decide) (by decide)
      have SL := fun (g : Nat) hg => own_idl L3 I3 (by decide) (by decide) (g := g) hg
      have SB := fun (g : Nat) hg => own_idl B3 I3 (by decide) (by decide) (g := g) hg
      have SR := fun (g : Nat) hg => (own_block I3.row (g := g) hg).1
      have A11 := f4.keep A10 (by simp only [List.mem_cons, not_or]; exact ⟨sA.1, sA.2.1, sA.2.2⟩)
      have L4 := own_fr L3 f4 (fun g hg => by simp only [List.mem_cons, not_or]; exact SL g (by rw [hg]; simp))
      have B4 := own_fr B3 f4 (fun g hg => by simp only [List.mem_cons, not_or]; exact SB g (by rw [hg]; simp))
      have D4 := D3.trans (fr_below f4 (by
        intro x hx
        simp only [List.mem_cons] at hx
        rcases hx with rfl | rfl | hx
        · exact HP.out.1
        · exact HP.out.2
        · exact SR x hx) hWs3)
      have hWs4 : base ≤ W4.heap.size := Nat.le_trans hWs3 f4.size
      clear sA SL SB SR A10 L3 B3 D3 I3 hWs3 f4 d0 d1 d2 d3
      obtain ⟨T, hTT⟩ : ∃ T, T = tagX c := ⟨_, rfl⟩
      have lT := str_eq (rfl : T = T)
      have c5 := fun w => (tagX_any c (by omega) w).mono (R' := fun e w' => e = .returned (.string (tagX c)) ∧ Fr [] w w') (fun e w' ⟨h1, h2⟩ => ⟨h1, h2 ▸ Fr.refl _ _⟩)
      have c6 := fun w => (num8_any 0 w).mono (R' := fun e w' => e = .returned (.int .i64 0) ∧ Fr [] w w') (fun e w' ⟨h1, h2⟩ => ⟨h1, h2 ▸ Fr.refl _ _⟩)
      obtain ⟨k16, hk16⟩ : ∃ k, k = c.size - 16 := ⟨_, rfl⟩
      have w16 : IntKind.i64.wrap ((c.size : Int) - 16) = (k16 : Int) := by rw [IntWalk.i64_in _ (by omega)]; have := HS.out.1; omega
      have w17 : wrap64 ((c.size : Int) - 16) = (k16 : Int) := by rw [IntWalk.wrap64_in _ (by omega)]; have := HS.out.1; omega
      have l16 : (k16 : Int) ≤ c.size := by omega
      have eT : c.extract k16 c.size = T := by rw [hTT, HS.out.2.2.1, hk16]; rfl
      rw [← hTT] at c5
      have bl : ((c.size : Int) != (X.text.size : Int) + 40) = false := by have := HS.out.1; simp; omega
      have w40 : IntKind.i64.wrap ((X.text.size : Int) + 40) = (X.text.size : Int) + 40 := IntWalk.i64_in _ (by omega)
      obtain ⟨G, hGd⟩ : ∃ G : World → Prop, G = Fr [] W4 := ⟨_, rfl⟩
      have gW : ∀ w', G w' ↔ Fr [] W4 w' := fun w' => by rw [hGd]
      have g2 : ∀ y : Gw G, Fr [] W4 y.w := fun y => (gW _).1 y.ok
      have a2 : ∀ y : Gw G, y.w.cell? ⟨t8, 2, none⟩ = some (.string X.text) := fun y => ((g2 y).keep A11 (by simp)).cell 2
      have g1 : ∀ (y : Gw G) w', Fr [] y.w w' → G w' := fun y w' f => (gW _).2 ((g2 y).trans f)
      have g0 : G W4.drew := (gW _).2 (Fr.drew _ _)
      have ne : Nonempty (Gw G) := ⟨⟨_, g0⟩⟩
      clear hGd hTT hk16
      refine wp_region_gw G (by kernel_rfl) (by kernel_rfl) g0 ?_
      repeat (go_big_quiet_step (first
        | (go_at_call 7; exact gw_call (c6 _) (g1 _))
        | (go_at_call 11; exact gw_call (c5 _) (g1 _))))
      refine wpQuiet_nil ?_
      rintro _ ⟨y, rfl⟩
      have fy := g2 y
      have A12 := fy.keep A11 (by simp)
      have I5 := I4.fr fy (by simp) (by simp) (by simp)
      have L5 := own_fr L4 fy (by simp)
      have B5 := own_fr B4 fy (by simp)
      have D5 := D4.trans (fy.below.mono hWs4)
      have hWs5 : base ≤ y.w.heap.size := Nat.le_trans hWs4 fy.size
      generalize y.w = W5 at A12 I5 L5 B5 D5 hWs5 ⊢
      clear a2 g1 g0 ne gW g2 A11 I4 L4 B4 D4 hWs4 fy c5 c6 lT bl w40 w16 w17 l16 eT
      have d0 := A12.cell 0
      have d1 := A12.cell 1
      have d2 := A12.cell 2
      have d3 := A12.cell 3
      have N5 := At.alloc_new W5 46 #[.int .i64 X.k, .string X.name, .string X.text, .int .i64 X.seed, .string c]
      have f5 := Fr.alloc [] W5 (.cells #[.int .i64 X.k, .string X.name, .string X.text, .int .i64 X.seed, .string c] 46)
      have w2 : IntKind.i64.wrap ((i : Int) + 1) = ((i + 1 : Nat) : Int) := by rw [IntWalk.i64_in _ (by omega)]; omega
      go_wp2_with (first
        | (at_builtin; refine wpList_append_own_wide _ rfl _ _ _ rfl base 46 iS _ 5 64 Try.underlying39 hiS zS0 zS1 zS2 rfl (by decide) _ i _ rfl (World.ownsRow.alloc L5 _) ⟨W5.heap.size, 0, none⟩ 1 1 (laC (X, c)) rfl rfl (by intro j u' hj; rw [addr_add', Nat.zero_add]; exact (N5.cell j).trans hj) (laid_one _) (by simp [maxLen]; omega) (by omega) (by simp; omega) ?_; intro v6 w6 o6 gr6 _)
        | fail)
      have f6 : Fr u6.ownBlock.toList W5 w6 := (Fr.alloc _ W5 _).trans (Fr.ofGrown gr6 (by intro k hk; have hk : u6.ownBlock = some k := hk; rw [hk]; simp))
      have B6 := own_fr B5 f6 (fun g hg => own_apart B5 L5 (by decide) (by rw [hg]; simp))
      have SL := fun (g : Nat) hg => own_idl L5 I5 (by decide) (by decide) (g := g) hg
      have I6 := I5.fr f6 (fun h => (SL p h).1 rfl) (fun h => (SL b h).2.1 rfl) (fun g hg h => (SL g h).2.2 hg)
      have D6 := D5.trans (fr_below f6 (fun x hx => (own_block L5 hx).1) hWs5)
      have hGm := HH.out.1
      have hLt := HH.out.2.1
      rw [HS.out.2.2.1] at hGm
      rw [HS.out.2.1] at I6
      refine ⟨⟨i + 1, _, vr4, by omega, by simp, ?_, B6, ?_, hGm, D6⟩, by simp only [RowKit.intOf]; omega⟩
      · rw [hLt, List.flatMap_append, List.flatMap_singleton]
        exact o6
      · rw [hLt, List.map_append, List.map_singleton]
        exact I6
    · obtain rfl : i = bs.length := by omega
      have l1 : ¬ (bs.length : Int) < bs.length := by omega
      have hLe : (LL bs).take bs.length = LL bs := List.take_of_length_le (by rw [LL_len]; exact Nat.le_refl _)
      rw [hLe] at oL hI hG
      clear hLe
      go_wp2_with fail
      go_ret2
      exact ⟨_, rfl, oL, vr, F, hI, hG, hBl⟩
end Go.Proofs.Ythalpgandfbkdaa
