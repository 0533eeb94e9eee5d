/- What was sealed is opened, whatever was sealed later. -/
import Derived.Test.YthalpgandfbkdaaIdlR
namespace Go.Proofs.Ythalpgandfbkdaa
open Go.RowKit Go.Lib Go.Joins Base Go.Maps
set_option linter.unusedVariables false
set_option linter.unusedSimpArgs false

theorem back_hit (rs : List Rw) (F : ByteArray → Int) (hG : Good rs F) (i : Nat) (x : La) (hi : rs[i]? = some (rowOf x)) (y : ByteArray) (d : Int)
    (h : (∃ r ∈ rs, Fits r x.1.k x.1.name x.2 ∧ y = r.2.2.2 ∧ d = 0) ∨ ((∀ r ∈ rs, ¬ Fits r x.1.k x.1.name x.2) ∧ y = ⟨#[]⟩ ∧ d = 81)) : y = x.1.text ∧ d = 0 := by
  rcases h with ⟨r, hr, hrf, hy, hd⟩ | ⟨hno, _⟩
  · obtain ⟨j, hj⟩ := List.mem_iff_getElem?.1 hr
    have e1 := hG.2 i _ hi
    have e2 := hG.2 j _ hj
    rw [show (rowOf x).2.2.1 = x.2 from rfl] at e1
    rw [hrf.2.2, e1] at e2
    obtain rfl : i = j := by omega
    rw [hi] at hj
    injection hj with hj
    rw [← hj] at hy
    exact ⟨hy, hd⟩
  · exact absurd ⟨rfl, rfl, rfl⟩ (hno _ (List.mem_iff_getElem?.2 ⟨i, hi⟩))
theorem own_mono {w : World} {base base' size : Nat} {e : TypeId} {v : Value} {n : Nat} {xs : List Value} (h : w.ownsRow base e size v n xs) (hb : base' ≤ base) : w.ownsRow base' e size v n xs := by
  obtain ⟨hl, h | ⟨g, cap, cur, hv, hg, r⟩⟩ := h
  · exact ⟨hl, .inl h⟩
  · exact ⟨hl, .inr ⟨g, cap, cur, hv, by omega, r⟩⟩
theorem Idl.mono {w : World} {base base' p b : Nat} {v : Value} {rs : List Rw} {F} (h : Idl w base p b v rs F) (hb : base' ≤ base) : Idl w base' p b v rs F := ⟨h.at_, own_mono h.row hb, h.tab⟩
theorem fr_trans_below {a b c : World} (h : Fr [] a b) (k : Below a.heap.size b c) : Fr [] a c := Fr.ofBelow (h.below.trans k)
theorem good_none : Good [] (fun _ => 0) := ⟨fun t => .inl rfl, fun j r h => by simp at h⟩
theorem LL_rowed (bs : List Bx) : Rowed ((LL bs).map rowOf) := by
  intro r hr
  obtain ⟨x, hx, rfl⟩ := List.mem_map.1 hr
  obtain ⟨h1, h2, h3, h4⟩ := LL_fine bs x hx
  refine ⟨h1, h2, ?_, h3⟩
  obtain ⟨i, hi⟩ := List.mem_iff_getElem?.1 hx
  have hl : i < bs.length := by
    have := (List.getElem?_eq_some_iff.1 hi).1
    rwa [LL_len] at this
  rw [LL_get bs i _ (List.getElem?_eq_getElem hl)] at hi
  injection hi with hi
  subst hi
  exact (blob_size i _).symm
set_option maxRecDepth 100000 in
set_option maxHeartbeats 4000000 in
theorem back_gen (base p b : Nat) (vL vr : Value) (L : List La) (hn : L.length ≤ 4398046511104) (rs : List Rw) (hrn : rs.length ≤ 4398046511104) (hsub : ∀ (i : Nat) (x : La), L[i]? = some x → rs[i]? = some (rowOf x)) (F : ByteArray → Int) (hG : Good rs F) (hFi : Fine L) (w : World)
    (hI : Idl w base p b vr rs F) (hL : w.ownsRow base 46 5 vL L.length (L.flatMap laC)) :
    Calls Try.prog 16 #[.iface 23 (.pointer (some ⟨p, 0, none⟩)), vL] w fun e w' => e = .returned (.bool true) ∧ Fr [] w w' := by
  obtain ⟨aL, cL, rfl, haL⟩ := own_slice hL
  have HA := Lib.hid haL
  have m4 := mt_open p
  have n4 := na_open p
  clear haL
  go_enter Try.func16, Try.ntmps16
  go_wp2_with fail
  go_loopw [5] (fun v wr => ∃ i : Nat, i ≤ L.length ∧ v = .int .i64 i ∧ Idl wr base p b vr rs F ∧ wr.ownsRow base 46 5 (.slice aL L.length cL) L.length (L.flatMap laC) ∧ Fr [] w wr) (fun v _ => L.length - (RowKit.intOf v).toNat)
  case atStart => exact ⟨0, by omega, rfl, hI, hL, Fr.refl _ _⟩
  case round =>
    clear hL hI
    obtain ⟨i, hi, rfl, hI, oL, hF⟩ := hrel
    by_cases hl : i < L.length
    · have l1 : (i : Int) < L.length := by omega
      obtain ⟨x, hx⟩ : ∃ x, L[i]? = some x := ⟨_, List.getElem?_eq_getElem hl⟩
      obtain ⟨g, rfl⟩ := HA.out (by omega)
      have w2 : IntKind.i64.wrap ((i : Int) + 1) = ((i + 1 : Nat) : Int) := by rw [IntWalk.i64_in _ (by omega)]; omega
      obtain ⟨h1, h2, h3, _⟩ := hFi x (List.mem_iff_getElem?.2 ⟨i, hx⟩)
      obtain ⟨y, d, hyd, cO⟩ := open_all x.1.k h1 x.1.name x.2 h2 (by omega) (rs := rs) (F := F) hrn hG
      obtain ⟨rfl, rfl⟩ := back_hit rs F hG i x (hsub i x hx) y d hyd
      clear hyd h1 h2 h3
      obtain ⟨G, hGd⟩ : ∃ G : World → Prop, G = Fr [] wr := ⟨_, rfl⟩
      have gW : ∀ w', G w' ↔ Fr [] wr w' := fun w' => by rw [hGd]
      clear hGd
      have g2 : ∀ y : Gw G, Fr [] wr y.w := fun y => (gW _).1 y.ok
      have hc := fun y : Gw G => la_cells (own_fr oL (g2 y) (by simp)) rfl i x hx
      have q0 := fun y : Gw G => (hc y).1
      have q1 := fun y : Gw G => (hc y).2.1
      have q4 := fun y : Gw G => (hc y).2.2.2.2
      have cO' := fun y : Gw G => cO y.w (hI.fr (g2 y) (by simp) (by simp) (by simp))
      have g1 : ∀ (y : Gw G) w', Fr [] y.w w' → G w' := fun y w' f => (gW _).2 ((g2 y).trans f)
      have g0 : G wr.drew := (gW _).2 (Fr.drew _ _)
      have ne : Nonempty (Gw G) := ⟨⟨_, g0⟩⟩
      clear hc cO
      go_upto_region 4 with fail
      refine wp_region_gw G (by kernel_rfl) (by kernel_rfl) g0 ?_
      repeat (go_big_quiet_step (first
        | (go_at_call 21; exact gw_call (cO' _) (g1 _))))
      refine wpQuiet_nil ?_
      rintro _ ⟨y, rfl⟩
      have fy := g2 y
      have I2 := hI.fr fy (by simp) (by simp) (by simp)
      have L2 := own_fr oL fy (by simp)
      have F2 := hF.trans fy
      generalize y.w = W2 at I2 L2 F2 ⊢
      clear q0 q1 q4 cO' g1 g0 ne gW g2 hI oL fy
      obtain ⟨_, _, q2, _, _⟩ := la_cells L2 rfl i x hx
      have lT := str_eq (rfl : x.1.text = x.1.text)
      clear hx
      go_wp2_with (first
        | (go_at_call 7; refine (num8_any 0 _).mono ?_; rintro e w7 ⟨rfl, rfl⟩)
        | fail)
      exact ⟨⟨i + 1, by omega, by simp, I2, L2, F2⟩, by simp only [RowKit.intOf]; omega⟩
    · obtain rfl : i = L.length := by omega
      have l1 : ¬ (L.length : Int) < L.length := by omega
      go_wp2_with fail
      go_ret
      exact ⟨rfl, hF⟩
end Go.Proofs.Ythalpgandfbkdaa
