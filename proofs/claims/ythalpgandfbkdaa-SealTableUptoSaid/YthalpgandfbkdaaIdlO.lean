/- The law's opened and back. (mkopened.py wrote it.) -/
import Derived.Test.YthalpgandfbkdaaIdlN
namespace Go.Proofs.Ythalpgandfbkdaa
open Go.RowKit Go.Lib Go.Joins Base Go.Maps
set_option linter.unusedVariables false
set_option linter.unusedSimpArgs false

def Fine (L : List La) : Prop := ∀ x ∈ L, (1 ≤ x.1.k ∧ x.1.k ≤ 3) ∧ x.1.name.size ≤ 64 ∧ x.2.size ≤ 1048576 ∧ 40 ≤ x.2.size
theorem LL_fine (bs : List Bx) : Fine (LL bs) := by
  intro x hx
  obtain ⟨i, hi⟩ := List.mem_iff_getElem?.1 hx
  have hl : i < bs.length := by
    have := (List.getElem?_eq_some_iff.1 hi).1
    rwa [LL_len] at this
  rw [LL_get bs i _ (List.getElem?_eq_getElem hl)] at hi
  injection hi with hi
  subst hi
  refine ⟨withinB_k _, cutB_size _ _, ?_, ?_⟩
  · show (blobOf i (withinB _)).size ≤ 1048576
    rw [blob_size]
    have : (withinB bs[i]).text.size ≤ 4096 := cutB_size _ _
    omega
  · show 40 ≤ (blobOf i (withinB _)).size
    rw [blob_size]; omega
/-- What Open answers, by the list. -/
theorem open_list (L : List La) (F : ByteArray → Int) (hG : Good (L.map rowOf) F) (k : Int) (nm c y : ByteArray) (d : Int)
    (h : (∃ r ∈ L.map rowOf, Fits r k nm c ∧ y = r.2.2.2 ∧ d = 0) ∨ ((∀ r ∈ L.map rowOf, ¬ Fits r k nm c) ∧ y = ⟨#[]⟩ ∧ d = 81)) :
    (∀ (i : Nat) (x : La), L[i]? = some x → Fits (rowOf x) k nm c → y = x.1.text ∧ d = 0) ∧ ((∀ (i : Nat) (x : La), L[i]? = some x → ¬ Fits (rowOf x) k nm c) → y = ⟨#[]⟩ ∧ d = 81) := by
  constructor
  · intro i x hx hf
    have hi : (L.map rowOf)[i]? = some (rowOf x) := by rw [List.getElem?_map, hx]; rfl
    rcases h with ⟨r, hr, hrf, hy, hd⟩ | ⟨hno, _⟩
    · obtain ⟨j, hj⟩ := List.mem_iff_getElem?.1 hr
      have e1 := hG.2 i _ hi
      have e2 := hG.2 j _ hj
      rw [hf.2.2] at e1
      rw [hrf.2.2, e1] at e2
      obtain rfl : i = j := by omega
      rw [hi] at hj
      injection hj with hj
      rw [← hj] at hy
      exact ⟨hy, hd⟩
    · exact absurd hf (hno _ (List.mem_iff_getElem?.2 ⟨i, hi⟩))
  · intro hno
    rcases h with ⟨r, hr, hrf, _⟩ | ⟨_, h⟩
    · obtain ⟨j, hj⟩ := List.mem_iff_getElem?.1 hr
      rw [List.getElem?_map, Option.map_eq_some_iff] at hj
      obtain ⟨x, hx, rfl⟩ := hj
      exact absurd hrf (hno j x hx)
    · exact h
theorem la_cells {w : World} {base n g cap : Nat} {L : List La} (h : w.ownsRow base 46 5 (.slice (some ⟨g, 0, none⟩) n cap) n (L.flatMap laC)) (hn : n = L.length) (i : Nat) (x : La) (hx : L[i]? = some x) :
    w.cell? ⟨g, i * 5, none⟩ = some (.int .i64 x.1.k) ∧ w.cell? ⟨g, i * 5 + 1, none⟩ = some (.string x.1.name) ∧ w.cell? ⟨g, i * 5 + 2, none⟩ = some (.string x.1.text) ∧ w.cell? ⟨g, i * 5 + 3, none⟩ = some (.int .i64 x.1.seed) ∧ w.cell? ⟨g, i * 5 + 4, none⟩ = some (.string x.2) := by
  have hi := (List.getElem?_eq_some_iff.1 hx).1
  have hl := flat_len laC 5 laC_len L
  have hc : ∀ k, k < 5 → w.cell? ⟨g, i * 5 + k, none⟩ = (laC x)[k]? := fun k hk => by
    rw [h.cellAt (i * 5 + k) (by omega), flat_at laC 5 laC_len L i x hx k hk]
  exact ⟨hc 0 (by omega), hc 1 (by omega), hc 2 (by omega), hc 3 (by omega), hc 4 (by omega)⟩
set_option maxRecDepth 100000 in
set_option maxHeartbeats 4000000 in
theorem opened_any (base p b : Nat) (vL vr : Value) (L : List La) (hn : L.length ≤ 4398046511104) (F : ByteArray → Int) (hG : Good (L.map rowOf) F) (k : Int) (hk : 1 ≤ k ∧ k ≤ 3) (nm c : ByteArray) (hnm : nm.size ≤ 64) (hc : c.size ≤ 4611686018427387904) (w : World)
    (hI : Idl w base p b vr (L.map rowOf) F) (hL : w.ownsRow base 46 5 vL L.length (L.flatMap laC)) :
    Calls Try.prog 15 #[.iface 23 (.pointer (some ⟨p, 0, none⟩)), vL, .int .i64 k, .string nm, .string c] w fun e w' => e = .returned (.bool true) ∧ Fr [] w w' := by
  obtain ⟨y, d, hyd, cO⟩ := open_all k hk nm c hnm hc (rs := L.map rowOf) (F := F) (by rw [List.length_map]; omega) hG
  obtain ⟨hhit, hmiss⟩ := open_list L F hG k nm c y d hyd
  have cO1 := cO w hI
  obtain ⟨aL, cL, rfl, haL⟩ := own_slice hL
  have HA := Lib.hid haL
  have HM := Lib.hid (And.intro hhit hmiss)
  have m4 := mt_open p
  clear hyd hhit hmiss cO haL
  go_enter Try.func15, Try.ntmps15
  go_wp2_with (first
    | (go_at_call 21; refine cO1.mono ?_; clear cO1; rintro e w1 ⟨rfl, f1⟩)
    | fail)
  have L1 := own_fr hL f1 (by simp)
  go_loopw [13] (fun v wr => ∃ i : Nat, i ≤ L.length ∧ v = .int .i64 i ∧ (∀ (j : Nat) (x : La), j < i → L[j]? = some x → ¬ Fits (rowOf x) k nm c) ∧ wr.ownsRow base 46 5 (.slice aL L.length cL) L.length (L.flatMap laC) ∧ Fr [] w wr) (fun v _ => L.length - (RowKit.intOf v).toNat)
  case atStart => exact ⟨0, by omega, rfl, fun j x h => by omega, L1, f1⟩
  case round =>
    clear L1 f1 hL hI
    obtain ⟨i, hi, rfl, hno, oL, hF⟩ := hrel
    by_cases hl : i < L.length
    · have l1 : (i : Int) < L.length := by omega
      obtain ⟨x, hx⟩ : ∃ x, L[i]? = some x := ⟨_, List.getElem?_eq_getElem hl⟩
      obtain ⟨g, rfl⟩ := HA.out (by omega)
      obtain ⟨q0, q1, q2, q3, q4⟩ := la_cells oL rfl i x hx
      have w2 : IntKind.i64.wrap ((i : Int) + 1) = ((i + 1 : Nat) : Int) := by rw [IntWalk.i64_in _ (by omega)]; omega
      have hstep : ¬ Fits (rowOf x) k nm c → ∀ (j : Nat) (x : La), j < i + 1 → L[j]? = some x → ¬ Fits (rowOf x) k nm c := fun hf j x' hj hx' => by
        rcases Nat.lt_or_ge j i with h | h
        · exact hno j x' h hx'
        · obtain rfl : j = i := by omega
          rw [hx] at hx'
          injection hx' with hx'
          exact hx' ▸ hf
      have hfit : Fits (rowOf x) k nm c ↔ (x.1.k = k ∧ x.1.name = nm ∧ x.2 = c) := Iff.rfl
      have hhit := HM.out.1 i x hx
      obtain ⟨⟨xk, xn, xt, xs⟩, xc⟩ := x
      simp only at q0 q1 q2 q3 q4 hfit hhit
      have HS := Lib.hid hstep
      have HF := Lib.hid hfit
      have HH := Lib.hid hhit
      clear hstep hfit hno hx hhit
      by_cases hk0 : xk = k
      · by_cases hn0 : xn = nm
        · by_cases hc0 : xc = c
          · subst hk0
            have b0 : (xk == xk) = true := by simp
            subst hn0
            have b1 := str_eq (rfl : xn = xn)
            subst hc0
            have b2 := str_eq (rfl : xc = xc)
            obtain ⟨rfl, rfl⟩ := HH.out ⟨rfl, rfl, rfl⟩
            have b3 := str_eq (rfl : y = y)
            go_wp2_with (first
              | (go_at_call 7; refine (num8_any 0 _).mono ?_; rintro e w7 ⟨rfl, rfl⟩)
              | fail)
            go_ret
            exact ⟨by first | rfl | (simp [b3]; done), hF⟩
          · subst hk0
            have b0 : (xk == xk) = true := by simp
            subst hn0
            have b1 := str_eq (rfl : xn = xn)
            have b2 := str_neq hc0
            have hf : ¬ Fits (rowOf (⟨xk, xn, xt, xs⟩, xc)) xk xn c := fun h => hc0 (HF.out.1 h).2.2
            have HN := Lib.hid (HS.out hf)
            clear hf hc0
            go_wp2_with fail
            exact ⟨⟨i + 1, by omega, by simp, HN.out, oL, hF⟩, by simp only [RowKit.intOf]; omega⟩
        · subst hk0
          have b0 : (xk == xk) = true := by simp
          have b1 := str_neq hn0
          have hf : ¬ Fits (rowOf (⟨xk, xn, xt, xs⟩, xc)) xk nm c := fun h => hn0 (HF.out.1 h).2.1
          have HN := Lib.hid (HS.out hf)
          clear hf hn0
          go_wp2_with fail
          exact ⟨⟨i + 1, by omega, by simp, HN.out, oL, hF⟩, by simp only [RowKit.intOf]; omega⟩
      · have b0 : (xk == k) = false := by simpa using hk0
        have hf : ¬ Fits (rowOf (⟨xk, xn, xt, xs⟩, xc)) k nm c := fun h => hk0 (HF.out.1 h).1
        have HN := Lib.hid (HS.out hf)
        clear hf hk0
        go_wp2_with fail
        exact ⟨⟨i + 1, by omega, by simp, HN.out, oL, hF⟩, by simp only [RowKit.intOf]; omega⟩
    · obtain rfl : i = L.length := by omega
      have l1 : ¬ (L.length : Int) < L.length := by omega
      obtain ⟨rfl, rfl⟩ := HM.out.2 (fun j x hx => hno j x (List.getElem?_eq_some_iff.1 hx).1 hx)
      clear hno
      go_wp2_with (first
        | (go_at_call 7; refine (num8_any 81 _).mono ?_; rintro e w7 ⟨rfl, rfl⟩)
        | fail)
      go_ret
      exact ⟨by first | rfl | (simp; done), hF⟩
set_option maxRecDepth 100000 in
set_option maxHeartbeats 4000000 in
theorem back_any (base p b : Nat) (vL vr : Value) (L : List La) (hn : L.length ≤ 4398046511104) (F : ByteArray → Int) (hG : Good (L.map rowOf) F) (hFi : Fine L) (w : World)
    (hI : Idl w base p b vr (L.map rowOf) F) (hL : w.ownsRow base 46 5 vL L.length (L.flatMap laC)) :
    Calls Try.prog 16 #[.iface 23 (.pointer (some ⟨p, 0, none⟩)), vL] w fun e w' => e = .returned (.bool true) ∧ Fr [] w w' := by
  obtain ⟨aL, cL, rfl, haL⟩ := own_slice hL
  have HA := Lib.hid haL
  have m4 := mt_open p
  have n4 := na_open p
  clear haL
  go_enter Try.func16, Try.ntmps16
  go_wp2_with fail
  go_loopw [5] (fun v wr => ∃ i : Nat, i ≤ L.length ∧ v = .int .i64 i ∧ Idl wr base p b vr (L.map rowOf) F ∧ wr.ownsRow base 46 5 (.slice aL L.length cL) L.length (L.flatMap laC) ∧ Fr [] w wr) (fun v _ => L.length - (RowKit.intOf v).toNat)
  case atStart => exact ⟨0, by omega, rfl, hI, hL, Fr.refl _ _⟩
  case round =>
    clear hL hI
    obtain ⟨i, hi, rfl, hI, oL, hF⟩ := hrel
    by_cases hl : i < L.length
    · have l1 : (i : Int) < L.length := by omega
      obtain ⟨x, hx⟩ : ∃ x, L[i]? = some x := ⟨_, List.getElem?_eq_getElem hl⟩
      obtain ⟨g, rfl⟩ := HA.out (by omega)
      have w2 : IntKind.i64.wrap ((i : Int) + 1) = ((i + 1 : Nat) : Int) := by rw [IntWalk.i64_in _ (by omega)]; omega
      obtain ⟨h1, h2, h3, _⟩ := hFi x (List.mem_iff_getElem?.2 ⟨i, hx⟩)
      obtain ⟨y, d, hyd, cO⟩ := open_all x.1.k h1 x.1.name x.2 h2 (by omega) (rs := L.map rowOf) (F := F) (by rw [List.length_map]; omega) hG
      obtain ⟨rfl, rfl⟩ := (open_list L F hG _ _ _ y d hyd).1 i x hx ⟨rfl, rfl, rfl⟩
      clear hyd h1 h2 h3
      obtain ⟨G, hGd⟩ : ∃ G : World → Prop, G = Fr [] wr := ⟨_, rfl⟩
      have gW : ∀ w', G w' ↔ Fr [] wr w' := fun w' => by rw [hGd]
      clear hGd
      have g2 : ∀ y : Gw G, Fr [] wr y.w := fun y => (gW _).1 y.ok
      have hc := fun y : Gw G => la_cells (own_fr oL (g2 y) (by simp)) rfl i x hx
      have q0 := fun y : Gw G => (hc y).1
      have q1 := fun y : Gw G => (hc y).2.1
      have q4 := fun y : Gw G => (hc y).2.2.2.2
      have cO' := fun y : Gw G => cO y.w (hI.fr (g2 y) (by simp) (by simp) (by simp))
      have g1 : ∀ (y : Gw G) w', Fr [] y.w w' → G w' := fun y w' f => (gW _).2 ((g2 y).trans f)
      have g0 : G wr.drew := (gW _).2 (Fr.drew _ _)
      have ne : Nonempty (Gw G) := ⟨⟨_, g0⟩⟩
      clear hc cO
      go_upto_region 4 with fail
      refine wp_region_gw G (by kernel_rfl) (by kernel_rfl) g0 ?_
      repeat (go_big_quiet_step (first
        | (go_at_call 21; exact gw_call (cO' _) (g1 _))))
      refine wpQuiet_nil ?_
      rintro _ ⟨y, rfl⟩
      have fy := g2 y
      have I2 := hI.fr fy (by simp) (by simp) (by simp)
      have L2 := own_fr oL fy (by simp)
      have F2 := hF.trans fy
      generalize y.w = W2 at I2 L2 F2 ⊢
      clear q0 q1 q4 cO' g1 g0 ne gW g2 hI oL fy
      obtain ⟨_, _, q2, _, _⟩ := la_cells L2 rfl i x hx
      have lT := str_eq (rfl : x.1.text = x.1.text)
      clear hx
      go_wp2_with (first
        | (go_at_call 7; refine (num8_any 0 _).mono ?_; rintro e w7 ⟨rfl, rfl⟩)
        | fail)
      exact ⟨⟨i + 1, by omega, by simp, I2, L2, F2⟩, by simp only [RowKit.intOf]; omega⟩
    · obtain rfl : i = L.length := by omega
      have l1 : ¬ (L.length : Int) < L.length := by omega
      go_wp2_with fail
      go_ret
      exact ⟨rfl, hF⟩
end Go.Proofs.Ythalpgandfbkdaa
