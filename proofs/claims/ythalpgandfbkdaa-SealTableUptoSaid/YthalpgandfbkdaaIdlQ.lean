/- A table handed out, compared, and taken up by another sealer. -/
import Derived.Test.YthalpgandfbkdaaIdlP
namespace Go.Proofs.Ythalpgandfbkdaa
open Go.RowKit Go.Lib Go.Joins Base Go.Maps
set_option linter.unusedVariables false
set_option linter.unusedSimpArgs false

theorem good_push (rs : List Rw) (r : Rw) (F : ByteArray → Int) (h : Good rs F) (h0 : F (tagX r.2.2.1) = 0) : Good (rs ++ [r]) (fun y => if y = tagX r.2.2.1 then ((rs.length + 1 : Nat) : Int) else F y) := by
  constructor
  · intro t
    by_cases ht : t = tagX r.2.2.1
    · refine .inr ⟨rs.length, r, ?_, by simp only [if_pos ht], ht.symm⟩
      rw [List.getElem?_append_right (by omega), Nat.sub_self]; rfl
    · simp only [if_neg ht]
      rcases h.1 t with h1 | ⟨j, r', hj, hF, hr⟩
      · exact .inl h1
      · exact .inr ⟨j, r', by rw [List.getElem?_append_left (List.getElem?_eq_some_iff.1 hj).1]; exact hj, hF, hr⟩
  · intro j r' hj
    rcases Nat.lt_or_ge j rs.length with hji | hji
    · rw [List.getElem?_append_left hji] at hj
      have h1 := h.2 j r' hj
      have hne : tagX r'.2.2.1 ≠ tagX r.2.2.1 := fun e => by rw [e, h0] at h1; omega
      simp only [if_neg hne]
      exact h1
    · rw [List.getElem?_append_right hji] at hj
      have : j = rs.length := by
        have := (List.getElem?_eq_some_iff.1 hj).1
        simp at this; omega
      subst this
      rw [Nat.sub_self] at hj
      simp at hj
      subst hj
      simp
theorem good_unique (rs : List Rw) (F F2 : ByteArray → Int) (h : Good rs F) (h2 : Good rs F2) : F = F2 := by
  funext t
  rcases h.1 t with h0 | ⟨j, r, hj, hF, hr⟩
  · rcases h2.1 t with h1 | ⟨j, r, hj, hF, hr⟩
    · rw [h0, h1]
    · have := h.2 j r hj
      rw [hr, h0] at this
      omega
  · have := h2.2 j r hj
    rw [hr] at this
    rw [hF, this]
theorem fresh_take (rs : List Rw) (F0 F : ByteArray → Int) (h0 : Good rs F0) (i : Nat) (r : Rw) (hr : rs[i]? = some r) (h : Good (rs.take i) F) : F (tagX r.2.2.1) = 0 := by
  rcases h.1 (tagX r.2.2.1) with h1 | ⟨j, r', hj, _, ht⟩
  · exact h1
  · exfalso
    have hji : j < i := by
      have := (List.getElem?_eq_some_iff.1 hj).1
      rw [List.length_take] at this; omega
    rw [List.getElem?_take_of_lt hji] at hj
    have e1 := h0.2 j r' hj
    have e2 := h0.2 i r hr
    rw [ht, e2] at e1
    omega
/-- Rows in a block. -/
def RowsAt (w : World) (g : Nat) (rs : List Rw) : Prop := ∀ j u, (rwsC rs)[j]? = some u → w.cell? ⟨g, j, none⟩ = some u
theorem RowsAt.fr {w w' : World} {g : Nat} {rs : List Rw} (h : RowsAt w g rs) {S : List Nat} (f : Fr S w w') (hg : g < w.heap.size) (hS : g ∉ S) : RowsAt w' g rs := by
  intro j u hj
  rw [← h j u hj]
  exact World.cell?_of_block (w := w) (f.block g hg hS)
theorem rwsC_at (rs : List Rw) (i : Nat) (r : Rw) (h : rs[i]? = some r) (k : Nat) (hk : k < 4) : (rwsC rs)[i * 4 + k]? = (rwCells r)[k]? := flat_at rwCells 4 (fun _ => rfl) rs i r h k hk
theorem RowsAt.row {w : World} {g : Nat} {rs : List Rw} (h : RowsAt w g rs) (i : Nat) (r : Rw) (hr : rs[i]? = some r) :
    w.cell? ⟨g, i * 4, none⟩ = some (.int .i64 r.1) ∧ w.cell? ⟨g, i * 4 + 1, none⟩ = some (.string r.2.1) ∧ w.cell? ⟨g, i * 4 + 2, none⟩ = some (.string r.2.2.1) ∧ w.cell? ⟨g, i * 4 + 3, none⟩ = some (.string r.2.2.2) :=
  ⟨h _ _ ((rwsC_at rs i r hr 0 (by omega)).trans rfl), h _ _ ((rwsC_at rs i r hr 1 (by omega)).trans rfl), h _ _ ((rwsC_at rs i r hr 2 (by omega)).trans rfl), h _ _ ((rwsC_at rs i r hr 3 (by omega)).trans rfl)⟩
set_option maxRecDepth 100000 in
set_option maxHeartbeats 2000000 in
theorem clip2_any (base n g cap : Nat) (xs : List Value) (w : World) (hR : w.ownsRow base 64 4 (.slice (some ⟨g, 0, none⟩) n cap) n xs) :
    Calls Try.prog 24 #[.slice (some ⟨g, 0, none⟩) n cap] w fun e w' => e = .returned (.slice (some ⟨g, 0, none⟩) n n) ∧ w = w' := by
  have hc := own_cap hR
  have l1 : (n : Int) ≤ cap := by omega
  have l2 : n ≤ cap := by omega
  clear hR
  go_enter Try.func24, Try.ntmps24
  go_wp2_with fail
  go_ret
  exact ⟨rfl, rfl⟩
set_option maxRecDepth 100000 in
set_option maxHeartbeats 2000000 in
theorem table2_any (base p b : Nat) (v : Value) (rs : List Rw) (F : ByteArray → Int) (hn : rs.length ≤ 1099511627776) (hne : 0 < rs.length) (w : World) (hI : Idl w base p b v rs F) :
    Calls Try.prog 12 #[.pointer (some ⟨p, 0, none⟩)] w fun e w' => ∃ g, e = .returned (.slice (some ⟨g, 0, none⟩) rs.length rs.length) ∧ RowsAt w' g rs ∧ w.heap.size ≤ g ∧ g < w'.heap.size ∧ Fr [] w w' := by
  have a0 := hI.at_.cell 0
  have h1 : ∀ u ∈ rwsC rs, u.oneCell' = true := by
    intro u hu
    obtain ⟨r, _, hr⟩ := List.mem_flatMap.1 hu
    exact rw_one r u hr
  have c1 := clone_any base rs.length v (rwsC rs) w hn h1 hI.row
  have c2 := fun g cap w' h => clip2_any w.heap.size rs.length g cap (rwsC rs) w' h
  have hl := rwsC_len rs
  go_enter Try.func12, Try.ntmps12
  go_wp2_with (first
    | (go_at_call 25; refine c1.mono ?_; rintro e w2 ⟨v', rfl, o2, f2⟩; obtain ⟨g, cap, rfl⟩ := ownsRow_form o2 (by omega))
    | (go_at_call 24; refine (c2 _ _ _ o2).mono ?_; rintro e w3 ⟨rfl, rfl⟩)
    | fail)
  go_ret
  have hb := own_block o2 (g := g) (by simp [Value.ownBlock])
  refine ⟨g, rfl, fun j u hj => ?_, hb.1, ?_, f2⟩
  · rw [o2.cellAt j (by have := (List.getElem?_eq_some_iff.1 hj).1; omega)]; exact hj
  · obtain ⟨_, cur, hc⟩ := hb
    rcases Nat.lt_or_ge g w2.heap.size with h' | h'
    · exact h'
    · rw [Array.getElem?_eq_none h'] at hc; cases hc
set_option maxRecDepth 100000 in
set_option maxHeartbeats 4000000 in
theorem same_any (g g2 : Nat) (rs : List Rw) (hn : rs.length ≤ 1099511627776) (w : World) (h1 : RowsAt w g rs) (h2 : RowsAt w g2 rs) (l1 : g < w.heap.size) (l2 : g2 < w.heap.size) :
    Calls Try.prog 17 #[.slice (some ⟨g, 0, none⟩) rs.length rs.length, .slice (some ⟨g2, 0, none⟩) rs.length rs.length] w fun e w' => e = .returned (.bool true) ∧ Fr [] w w' := by
  have HL := Lib.hid (And.intro l1 l2)
  clear l1 l2
  go_enter Try.func17, Try.ntmps17
  go_wp2_with fail
  go_loopw [5] (fun v wr => ∃ i : Nat, i ≤ rs.length ∧ v = .int .i64 i ∧ RowsAt wr g rs ∧ RowsAt wr g2 rs ∧ Fr [] w wr) (fun v _ => rs.length - (RowKit.intOf v).toNat)
  case atStart => exact ⟨0, by omega, rfl, h1, h2, Fr.refl _ _⟩
  case round =>
    clear h1 h2
    obtain ⟨i, hi, rfl, h1, h2, hF⟩ := hrel
    by_cases hl : i < rs.length
    · have l1 : (i : Int) < rs.length := by omega
      have w2 : IntKind.i64.wrap ((i : Int) + 1) = ((i + 1 : Nat) : Int) := by rw [IntWalk.i64_in _ (by omega)]; omega
      obtain ⟨⟨r1, r2, r3, r4⟩, hr⟩ : ∃ r, rs[i]? = some r := ⟨_, List.getElem?_eq_getElem hl⟩
      have z1 : g < wr.heap.size := Nat.lt_of_lt_of_le HL.out.1 hF.size
      have z2 : g2 < wr.heap.size := Nat.lt_of_lt_of_le HL.out.2 hF.size
      obtain ⟨G, hGd⟩ : ∃ G : World → Prop, G = Fr [] wr := ⟨_, rfl⟩
      have gW : ∀ w', G w' ↔ Fr [] wr w' := fun w' => by rw [hGd]
      clear hGd
      have k2 : ∀ y : Gw G, Fr [] wr y.w := fun y => (gW _).1 y.ok
      have hc := fun y : Gw G => (h1.fr (k2 y) z1 (by simp)).row i _ hr
      have hd := fun y : Gw G => (h2.fr (k2 y) z2 (by simp)).row i _ hr
      have a0 := fun y : Gw G => (hc y).1
      have a1 := fun y : Gw G => (hc y).2.1
      have a2 := fun y : Gw G => (hc y).2.2.1
      have a3 := fun y : Gw G => (hc y).2.2.2
      have b0 := fun y : Gw G => (hd y).1
      have b1 := fun y : Gw G => (hd y).2.1
      have b2 := fun y : Gw G => (hd y).2.2.1
      have b3 := fun y : Gw G => (hd y).2.2.2
      simp only at a0 a1 a2 a3 b0 b1 b2 b3
      have n0 : (r1 != r1) = false := by simp
      have n1 := str_eq (rfl : r2 = r2)
      have n2 := str_eq (rfl : r3 = r3)
      have n3 := str_eq (rfl : r4 = r4)
      have g0 : G wr.drew := (gW _).2 (Fr.drew _ _)
      have ne : Nonempty (Gw G) := ⟨⟨_, g0⟩⟩
      clear hc hd hr
      go_upto_region 6 with fail
      refine wp_region_gw G (by kernel_rfl) (by kernel_rfl) g0 ?_
      repeat (go_big_quiet_step (fail))
      refine wpQuiet_nil ?_
      rintro _ ⟨y, rfl⟩
      have fy := k2 y
      have h3 := h1.fr fy z1 (by simp)
      have h4 := h2.fr fy z2 (by simp)
      have F2 := hF.trans fy
      clear a0 a1 a2 a3 b0 b1 b2 b3 ne k2 gW
      go_wp2_with fail
      exact ⟨⟨i + 1, by omega, by simp, h3, h4, F2⟩, by simp only [RowKit.intOf]; omega⟩
    · obtain rfl : i = rs.length := by omega
      have l1 : ¬ (rs.length : Int) < rs.length := by omega
      go_wp2_with fail
      go_ret
      exact ⟨rfl, hF⟩
end Go.Proofs.Ythalpgandfbkdaa
