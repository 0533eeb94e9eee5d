-- PRINTED BY print.sh 35421559b90ae4d0a3588c463048766b98c2df88dd9212a6774a882060cdf62d: not written by this session
import Derived.Test.YtfoigonlbhecdaaPSharesFieldx0
import Derived.Test.YtfoigonlbhecdaaPSharesFieldx1
namespace Go.Proofs.Ytfoigonlbhecdaa.PSharesField
open Go.RowKit Go.Proofs.YtfoigonlbhecdaaW.PrintWords Go.Proofs.YtfoigonlbhecdaaW.PrintLast Go.Proofs.YtfoigonlbhecdaaW.PrintMore
attribute [local go_sem] max2_int min2_int max_two min_two max_three min_three max_four min_four   -- for this text's walks alone
set_option linter.unusedVariables false
set_option linter.unusedSimpArgs false

/-! ### casketlaw26_SharesField: function 5 -/
mutual
def casketlaw26_SharesField.j0 : Nat → Int → Int → Int → Bool → Option (Bool)
  | 0, _, _, _, _ => none
  | k + 1, x7, x8, x10, x67 => if x67 = true then (some false) else ((casketlaw26_product.f k x7 1).bind fun t117 => (if t117 = x7 then ((casketlaw26_product.f k x7 0).bind fun t118 => (if t118 = 0 then (if x7 = 0 then (casketlaw26_SharesField.j1 k x7 ((x10 == 0) != true)) else (casketlaw26_SharesField.j1 k x7 ((x10 == 0) != (x8 == 0)))) else (casketlaw26_SharesField.j1 k x7 true))) else (casketlaw26_SharesField.j1 k x7 true)))
def casketlaw26_SharesField.j1 : Nat → Int → Bool → Option (Bool)
  | 0, _, _ => none
  | k + 1, x7, x87 => if x87 = true then (some false) else (if (wrap64 (2 * x7)) > 255 then (casketlaw26_SharesField.j2 k x7 (Go.bits .xor .i64 (wrap64 (2 * x7)) 283)) else (casketlaw26_SharesField.j2 k x7 (wrap64 (2 * x7))))
def casketlaw26_SharesField.j2 : Nat → Int → Int → Option (Bool)
  | 0, _, _ => none
  | k + 1, x7, x13 => (casketlaw26_product.f k x7 2).bind fun t119 => (if t119 = x13 then ((shares_Inv.f k x7).bind fun bt120 => (if x7 = 0 then ((casketlaw26_num.f bt120.2).bind fun t122 => (if t122 = 1 then (some (bt120.1 == 0)) else (some false))) else ((casketlaw26_num.f bt120.2).bind fun t123 => (if t123 = 0 then ((casketlaw26_product.f k x7 bt120.1).bind fun t124 => (some (t124 == 1))) else (some false))))) else (some false))
end
def casketlaw26_SharesField.f (k : Nat) (a0 : Int) (a1 : Int) (a2 : Int) : Option (Bool) := (casketlaw26_clipped.f a0 0 255).bind fun t107 => ((casketlaw26_clipped.f a1 0 255).bind fun t108 => ((casketlaw26_clipped.f a2 0 255).bind fun t109 => ((casketlaw26_product.f k t107 t108).bind fun t110 => ((casketlaw26_product.f k t108 t109).bind fun t111 => ((casketlaw26_product.f k t107 t109).bind fun t112 => (if t110 < 0 then (casketlaw26_SharesField.j0 k t107 t108 t110 true) else (if t111 < 0 then (casketlaw26_SharesField.j0 k t107 t108 t110 true) else (if t112 < 0 then (casketlaw26_SharesField.j0 k t107 t108 t110 true) else ((casketlaw26_product.f k t108 t107).bind fun t113 => (if t110 = t113 then ((casketlaw26_product.f k t110 t109).bind fun t114 => ((casketlaw26_product.f k t107 t111).bind fun t115 => (if t114 = t115 then ((casketlaw26_product.f k t107 (Go.bits .xor .i64 t108 t109)).bind fun t116 => (casketlaw26_SharesField.j0 k t107 t108 t110 (t116 != (Go.bits .xor .i64 t110 t112)))) else (casketlaw26_SharesField.j0 k t107 t108 t110 true)))) else (casketlaw26_SharesField.j0 k t107 t108 t110 true)))))))))))
theorem casketlaw26_SharesField.mono_l : ∀ k, (∀ y0 y1 y2 y3, LeO (casketlaw26_SharesField.j0 k y0 y1 y2 y3) (casketlaw26_SharesField.j0 (k + 1) y0 y1 y2 y3)) ∧ (∀ y0 y1, LeO (casketlaw26_SharesField.j1 k y0 y1) (casketlaw26_SharesField.j1 (k + 1) y0 y1)) ∧ (∀ y0 y1, LeO (casketlaw26_SharesField.j2 k y0 y1) (casketlaw26_SharesField.j2 (k + 1) y0 y1))
  | 0 => ⟨fun _ _ _ _ r h => by simp [casketlaw26_SharesField.j0] at h, fun _ _ r h => by simp [casketlaw26_SharesField.j1] at h, fun _ _ r h => by simp [casketlaw26_SharesField.j2] at h⟩
  | k + 1 => by
    obtain ⟨ih0, ih1, ih2⟩ := casketlaw26_SharesField.mono_l k
    refine ⟨?_, ?_, ?_⟩
    · intro y0 y1 y2 y3
      unfold casketlaw26_SharesField.j0
      repeat' first
      | (with_reducible exact ih0 _ _ _ _)
      | (with_reducible exact ih1 _ _)
      | (with_reducible exact ih2 _ _)
      | (with_reducible exact casketlaw26_product.mono _ _ _)
      | (with_reducible exact shares_Inv.mono _ _)
      | (with_reducible exact LeO.refl _)
      | (with_reducible exact LeO.none _)
      | (with_reducible refine LeO.ite ?_ ?_)
      | (with_reducible refine LeO.bind ?_ (fun _ => ?_))
      | exact ih0 _ _ _ _
      | exact ih1 _ _
      | exact ih2 _ _
      | exact casketlaw26_product.mono _ _ _
      | exact shares_Inv.mono _ _
      | exact LeO.none _
      | refine LeO.ite ?_ ?_
      | refine LeO.bind ?_ (fun _ => ?_)
    · intro y0 y1
      unfold casketlaw26_SharesField.j1
      repeat' first
      | (with_reducible exact ih0 _ _ _ _)
      | (with_reducible exact ih1 _ _)
      | (with_reducible exact ih2 _ _)
      | (with_reducible exact casketlaw26_product.mono _ _ _)
      | (with_reducible exact shares_Inv.mono _ _)
      | (with_reducible exact LeO.refl _)
      | (with_reducible exact LeO.none _)
      | (with_reducible refine LeO.ite ?_ ?_)
      | (with_reducible refine LeO.bind ?_ (fun _ => ?_))
      | exact ih0 _ _ _ _
      | exact ih1 _ _
      | exact ih2 _ _
      | exact casketlaw26_product.mono _ _ _
      | exact shares_Inv.mono _ _
      | exact LeO.none _
      | refine LeO.ite ?_ ?_
      | refine LeO.bind ?_ (fun _ => ?_)
    · intro y0 y1
      unfold casketlaw26_SharesField.j2
      repeat' first
      | (with_reducible exact ih0 _ _ _ _)
      | (with_reducible exact ih1 _ _)
      | (with_reducible exact ih2 _ _)
      | (with_reducible exact casketlaw26_product.mono _ _ _)
      | (with_reducible exact shares_Inv.mono _ _)
      | (with_reducible exact LeO.refl _)
      | (with_reducible exact LeO.none _)
      | (with_reducible refine LeO.ite ?_ ?_)
      | (with_reducible refine LeO.bind ?_ (fun _ => ?_))
      | exact ih0 _ _ _ _
      | exact ih1 _ _
      | exact ih2 _ _
      | exact casketlaw26_product.mono _ _ _
      | exact shares_Inv.mono _ _
      | exact LeO.none _
      | refine LeO.ite ?_ ?_
      | refine LeO.bind ?_ (fun _ => ?_)
theorem casketlaw26_SharesField.mono : ∀ a0 a1 a2 k, LeO (casketlaw26_SharesField.f k a0 a1 a2) (casketlaw26_SharesField.f (k + 1) a0 a1 a2) := by
  intro a0 a1 a2 k
  obtain ⟨ih0, ih1, ih2⟩ := casketlaw26_SharesField.mono_l k
  unfold casketlaw26_SharesField.f
  repeat' first
      | (with_reducible exact ih0 _ _ _ _)
      | (with_reducible exact ih1 _ _)
      | (with_reducible exact ih2 _ _)
      | (with_reducible exact casketlaw26_product.mono _ _ _)
      | (with_reducible exact shares_Inv.mono _ _)
      | (with_reducible exact LeO.refl _)
      | (with_reducible exact LeO.none _)
      | (with_reducible refine LeO.ite ?_ ?_)
      | (with_reducible refine LeO.bind ?_ (fun _ => ?_))
      | exact ih0 _ _ _ _
      | exact ih1 _ _
      | exact ih2 _ _
      | exact casketlaw26_product.mono _ _ _
      | exact shares_Inv.mono _ _
      | exact LeO.none _
      | refine LeO.ite ?_ ?_
      | refine LeO.bind ?_ (fun _ => ?_)
set_option maxHeartbeats 8000000 in
set_option maxRecDepth 100000 in
theorem casketlaw26_SharesField.calls (k : Nat) (a0 : Int) (a1 : Int) (a2 : Int) (r : Bool) (w : World) (h : casketlaw26_SharesField.f k a0 a1 a2 = some r) :
    Calls Try.prog 5 #[.int .i64 a0, .int .i64 a1, .int .i64 a2] w fun e w' => e = .returned (.bool r) ∧ Drawn0 w w' := by
  have H : ((casketlaw26_clipped.f a0 0 255).bind fun t107 => ((casketlaw26_clipped.f a1 0 255).bind fun t108 => ((casketlaw26_clipped.f a2 0 255).bind fun t109 => ((casketlaw26_product.f k t107 t108).bind fun t110 => ((casketlaw26_product.f k t108 t109).bind fun t111 => ((casketlaw26_product.f k t107 t109).bind fun t112 => (if t110 < 0 then (casketlaw26_SharesField.j0 k t107 t108 t110 true) else (if t111 < 0 then (casketlaw26_SharesField.j0 k t107 t108 t110 true) else (if t112 < 0 then (casketlaw26_SharesField.j0 k t107 t108 t110 true) else ((casketlaw26_product.f k t108 t107).bind fun t113 => (if t110 = t113 then ((casketlaw26_product.f k t110 t109).bind fun t114 => ((casketlaw26_product.f k t107 t111).bind fun t115 => (if t114 = t115 then ((casketlaw26_product.f k t107 (Go.bits .xor .i64 t108 t109)).bind fun t116 => (casketlaw26_SharesField.j0 k t107 t108 t110 (t116 != (Go.bits .xor .i64 t110 t112)))) else (casketlaw26_SharesField.j0 k t107 t108 t110 true)))) else (casketlaw26_SharesField.j0 k t107 t108 t110 true)))))))))))) = some r := h
  clear h
  replace H := Option.bind_eq_some_iff.mp H
  obtain ⟨t107, A40, H⟩ := H
  replace H : ((casketlaw26_clipped.f a1 0 255).bind fun t108 => ((casketlaw26_clipped.f a2 0 255).bind fun t109 => ((casketlaw26_product.f k t107 t108).bind fun t110 => ((casketlaw26_product.f k t108 t109).bind fun t111 => ((casketlaw26_product.f k t107 t109).bind fun t112 => (if t110 < 0 then (casketlaw26_SharesField.j0 k t107 t108 t110 true) else (if t111 < 0 then (casketlaw26_SharesField.j0 k t107 t108 t110 true) else (if t112 < 0 then (casketlaw26_SharesField.j0 k t107 t108 t110 true) else ((casketlaw26_product.f k t108 t107).bind fun t113 => (if t110 = t113 then ((casketlaw26_product.f k t110 t109).bind fun t114 => ((casketlaw26_product.f k t107 t111).bind fun t115 => (if t114 = t115 then ((casketlaw26_product.f k t107 (Go.bits .xor .i64 t108 t109)).bind fun t116 => (casketlaw26_SharesField.j0 k t107 t108 t110 (t116 != (Go.bits .xor .i64 t110 t112)))) else (casketlaw26_SharesField.j0 k t107 t108 t110 true)))) else (casketlaw26_SharesField.j0 k t107 t108 t110 true))))))))))) = some r := H
  have A4 := Aside0.mk A40
  clear A40
  replace H := Option.bind_eq_some_iff.mp H
  obtain ⟨t108, A50, H⟩ := H
  replace H : ((casketlaw26_clipped.f a2 0 255).bind fun t109 => ((casketlaw26_product.f k t107 t108).bind fun t110 => ((casketlaw26_product.f k t108 t109).bind fun t111 => ((casketlaw26_product.f k t107 t109).bind fun t112 => (if t110 < 0 then (casketlaw26_SharesField.j0 k t107 t108 t110 true) else (if t111 < 0 then (casketlaw26_SharesField.j0 k t107 t108 t110 true) else (if t112 < 0 then (casketlaw26_SharesField.j0 k t107 t108 t110 true) else ((casketlaw26_product.f k t108 t107).bind fun t113 => (if t110 = t113 then ((casketlaw26_product.f k t110 t109).bind fun t114 => ((casketlaw26_product.f k t107 t111).bind fun t115 => (if t114 = t115 then ((casketlaw26_product.f k t107 (Go.bits .xor .i64 t108 t109)).bind fun t116 => (casketlaw26_SharesField.j0 k t107 t108 t110 (t116 != (Go.bits .xor .i64 t110 t112)))) else (casketlaw26_SharesField.j0 k t107 t108 t110 true)))) else (casketlaw26_SharesField.j0 k t107 t108 t110 true)))))))))) = some r := H
  have A5 := Aside0.mk A50
  clear A50
  replace H := Option.bind_eq_some_iff.mp H
  obtain ⟨t109, A60, H⟩ := H
  replace H : ((casketlaw26_product.f k t107 t108).bind fun t110 => ((casketlaw26_product.f k t108 t109).bind fun t111 => ((casketlaw26_product.f k t107 t109).bind fun t112 => (if t110 < 0 then (casketlaw26_SharesField.j0 k t107 t108 t110 true) else (if t111 < 0 then (casketlaw26_SharesField.j0 k t107 t108 t110 true) else (if t112 < 0 then (casketlaw26_SharesField.j0 k t107 t108 t110 true) else ((casketlaw26_product.f k t108 t107).bind fun t113 => (if t110 = t113 then ((casketlaw26_product.f k t110 t109).bind fun t114 => ((casketlaw26_product.f k t107 t111).bind fun t115 => (if t114 = t115 then ((casketlaw26_product.f k t107 (Go.bits .xor .i64 t108 t109)).bind fun t116 => (casketlaw26_SharesField.j0 k t107 t108 t110 (t116 != (Go.bits .xor .i64 t110 t112)))) else (casketlaw26_SharesField.j0 k t107 t108 t110 true)))) else (casketlaw26_SharesField.j0 k t107 t108 t110 true))))))))) = some r := H
  have A6 := Aside0.mk A60
  clear A60
  replace H := Option.bind_eq_some_iff.mp H
  obtain ⟨t110, A70, H⟩ := H
  replace H : ((casketlaw26_product.f k t108 t109).bind fun t111 => ((casketlaw26_product.f k t107 t109).bind fun t112 => (if t110 < 0 then (casketlaw26_SharesField.j0 k t107 t108 t110 true) else (if t111 < 0 then (casketlaw26_SharesField.j0 k t107 t108 t110 true) else (if t112 < 0 then (casketlaw26_SharesField.j0 k t107 t108 t110 true) else ((casketlaw26_product.f k t108 t107).bind fun t113 => (if t110 = t113 then ((casketlaw26_product.f k t110 t109).bind fun t114 => ((casketlaw26_product.f k t107 t111).bind fun t115 => (if t114 = t115 then ((casketlaw26_product.f k t107 (Go.bits .xor .i64 t108 t109)).bind fun t116 => (casketlaw26_SharesField.j0 k t107 t108 t110 (t116 != (Go.bits .xor .i64 t110 t112)))) else (casketlaw26_SharesField.j0 k t107 t108 t110 true)))) else (casketlaw26_SharesField.j0 k t107 t108 t110 true)))))))) = some r := H
  have A7 := Aside0.mk A70
  clear A70
  replace H := Option.bind_eq_some_iff.mp H
  obtain ⟨t111, A80, H⟩ := H
  replace H : ((casketlaw26_product.f k t107 t109).bind fun t112 => (if t110 < 0 then (casketlaw26_SharesField.j0 k t107 t108 t110 true) else (if t111 < 0 then (casketlaw26_SharesField.j0 k t107 t108 t110 true) else (if t112 < 0 then (casketlaw26_SharesField.j0 k t107 t108 t110 true) else ((casketlaw26_product.f k t108 t107).bind fun t113 => (if t110 = t113 then ((casketlaw26_product.f k t110 t109).bind fun t114 => ((casketlaw26_product.f k t107 t111).bind fun t115 => (if t114 = t115 then ((casketlaw26_product.f k t107 (Go.bits .xor .i64 t108 t109)).bind fun t116 => (casketlaw26_SharesField.j0 k t107 t108 t110 (t116 != (Go.bits .xor .i64 t110 t112)))) else (casketlaw26_SharesField.j0 k t107 t108 t110 true)))) else (casketlaw26_SharesField.j0 k t107 t108 t110 true))))))) = some r := H
  have A8 := Aside0.mk A80
  clear A80
  replace H := Option.bind_eq_some_iff.mp H
  obtain ⟨t112, A90, H⟩ := H
  replace H : (if t110 < 0 then (casketlaw26_SharesField.j0 k t107 t108 t110 true) else (if t111 < 0 then (casketlaw26_SharesField.j0 k t107 t108 t110 true) else (if t112 < 0 then (casketlaw26_SharesField.j0 k t107 t108 t110 true) else ((casketlaw26_product.f k t108 t107).bind fun t113 => (if t110 = t113 then ((casketlaw26_product.f k t110 t109).bind fun t114 => ((casketlaw26_product.f k t107 t111).bind fun t115 => (if t114 = t115 then ((casketlaw26_product.f k t107 (Go.bits .xor .i64 t108 t109)).bind fun t116 => (casketlaw26_SharesField.j0 k t107 t108 t110 (t116 != (Go.bits .xor .i64 t110 t112)))) else (casketlaw26_SharesField.j0 k t107 t108 t110 true)))) else (casketlaw26_SharesField.j0 k t107 t108 t110 true)))))) = some r := H
  have A9 := Aside0.mk A90
  clear A90
  have HC10 := Aside0.mk H
  clear H
  go_enter Try.func5, Try.ntmps5
  go_upto_region 7 with (first | ((with_reducible refine gate_callee (f := 16) rfl ?_); refine goesL_ (some 17) rfl rfl Try.func16 (by kernel_rfl) rfl #[.int .i64 a0, .int .i64 0, .int .i64 255] rfl (by (try simp only [List.map_toArray, List.map_cons, List.map_nil]); first | done | rfl | (simp only [List.length_drop, List.length_take]; rfl)) ?_; (with_reducible refine (casketlaw26_clipped.calls a0 0 255 t107 _ A4.out).mono ?_); rintro e w' ⟨rfl, ⟨nd, rfl⟩⟩; refine ⟨_, rfl, ?_⟩) | ((with_reducible refine gate_callee (f := 16) rfl ?_); refine goesL_ (some 19) rfl rfl Try.func16 (by kernel_rfl) rfl #[.int .i64 a1, .int .i64 0, .int .i64 255] rfl (by (try simp only [List.map_toArray, List.map_cons, List.map_nil]); first | done | rfl | (simp only [List.length_drop, List.length_take]; rfl)) ?_; (with_reducible refine (casketlaw26_clipped.calls a1 0 255 t108 _ A5.out).mono ?_); rintro e w' ⟨rfl, ⟨nd, rfl⟩⟩; refine ⟨_, rfl, ?_⟩) | ((with_reducible refine gate_callee (f := 16) rfl ?_); refine goesL_ (some 21) rfl rfl Try.func16 (by kernel_rfl) rfl #[.int .i64 a2, .int .i64 0, .int .i64 255] rfl (by (try simp only [List.map_toArray, List.map_cons, List.map_nil]); first | done | rfl | (simp only [List.length_drop, List.length_take]; rfl)) ?_; (with_reducible refine (casketlaw26_clipped.calls a2 0 255 t109 _ A6.out).mono ?_); rintro e w' ⟨rfl, ⟨nd, rfl⟩⟩; refine ⟨_, rfl, ?_⟩) | ((with_reducible refine gate_callee (f := 17) rfl ?_); refine goesL_ (some 24) rfl rfl Try.func17 (by kernel_rfl) rfl #[.int .i64 t107, .int .i64 t108] rfl (by (try simp only [List.map_toArray, List.map_cons, List.map_nil]); first | done | rfl | (simp only [List.length_drop, List.length_take]; rfl)) ?_; (with_reducible refine (casketlaw26_product.calls k t107 t108 t110 _ A7.out).mono ?_); rintro e w' ⟨rfl, ⟨nd, rfl⟩⟩; refine ⟨_, rfl, ?_⟩) | ((with_reducible refine gate_callee (f := 17) rfl ?_); refine goesL_ (some 27) rfl rfl Try.func17 (by kernel_rfl) rfl #[.int .i64 t108, .int .i64 t109] rfl (by (try simp only [List.map_toArray, List.map_cons, List.map_nil]); first | done | rfl | (simp only [List.length_drop, List.length_take]; rfl)) ?_; (with_reducible refine (casketlaw26_product.calls k t108 t109 t111 _ A8.out).mono ?_); rintro e w' ⟨rfl, ⟨nd, rfl⟩⟩; refine ⟨_, rfl, ?_⟩) | ((with_reducible refine gate_callee (f := 17) rfl ?_); refine goesL_ (some 30) rfl rfl Try.func17 (by kernel_rfl) rfl #[.int .i64 t107, .int .i64 t109] rfl (by (try simp only [List.map_toArray, List.map_cons, List.map_nil]); first | done | rfl | (simp only [List.length_drop, List.length_take]; rfl)) ?_; (with_reducible refine (casketlaw26_product.calls k t107 t109 t112 _ A9.out).mono ?_); rintro e w' ⟨rfl, ⟨nd, rfl⟩⟩; refine ⟨_, rfl, ?_⟩))
  (try simp only [Act.put, List.setIfInBounds_toArray, List.set_cons_zero, List.set_cons_succ])
  go_cut [67] (fun v67 wc => ∃ (kq : Nat) (x67_9 : Bool), v67 = .bool x67_9 ∧ Aside0 (casketlaw26_SharesField.j0 kq t107 t108 t110 x67_9 = some r) ∧ Aside0 (kq ≤ k) ∧ Drawn0 w wc)
  case first =>
    have H := HC10.out
    clear HC10
    by_cases c11 : t110 < 0
    · rw [if_pos c11] at H
      have c11b0 : decide (t110 < 0) = true := decide_eq_true c11
      clear c11
      (first | rw [c11b0] | (simp only [i64_w, i32_w]; rw [c11b0]) | skip)
      have H' := Aside0.mk H
      clear H
      go_wp2
      go_meet
      case rel => exact ⟨_, (true), (by first | rfl | (simp; done) | (simp [*]; done)), H', ⟨by first | omega | exact Nat.le_refl _⟩, by repeat (first | exact Drawn0.refl _ | apply Drawn0.step)⟩
    · rw [if_neg c11] at H
      have c11b0 : decide (t110 < 0) = false := decide_eq_false c11
      clear c11
      (first | rw [c11b0] | (simp only [i64_w, i32_w]; rw [c11b0]) | skip)
      by_cases c12 : t111 < 0
      · rw [if_pos c12] at H
        have c12b0 : decide (t111 < 0) = true := decide_eq_true c12
        clear c12
        have H' := Aside0.mk H
        clear H
        go_wp2
        go_meet
        case rel => exact ⟨_, (true), (by first | rfl | (simp; done) | (simp [*]; done)), H', ⟨by first | omega | exact Nat.le_refl _⟩, by repeat (first | exact Drawn0.refl _ | apply Drawn0.step)⟩
      · rw [if_neg c12] at H
        have c12b0 : decide (t111 < 0) = false := decide_eq_false c12
        clear c12
        by_cases c13 : t112 < 0
        · rw [if_pos c13] at H
          have c13b0 : decide (t112 < 0) = true := decide_eq_true c13
          clear c13
          have H' := Aside0.mk H
          clear H
          go_wp2
          go_meet
          case rel => exact ⟨_, (true), (by first | rfl | (simp; done) | (simp [*]; done)), H', ⟨by first | omega | exact Nat.le_refl _⟩, by repeat (first | exact Drawn0.refl _ | apply Drawn0.step)⟩
        · rw [if_neg c13] at H
          have c13b0 : decide (t112 < 0) = false := decide_eq_false c13
          clear c13
          replace H := Option.bind_eq_some_iff.mp H
          obtain ⟨t113, A140, H⟩ := H
          replace H : (if t110 = t113 then ((casketlaw26_product.f k t110 t109).bind fun t114 => ((casketlaw26_product.f k t107 t111).bind fun t115 => (if t114 = t115 then ((casketlaw26_product.f k t107 (Go.bits .xor .i64 t108 t109)).bind fun t116 => (casketlaw26_SharesField.j0 k t107 t108 t110 (t116 != (Go.bits .xor .i64 t110 t112)))) else (casketlaw26_SharesField.j0 k t107 t108 t110 true)))) else (casketlaw26_SharesField.j0 k t107 t108 t110 true)) = some r := H
          have A14 := Aside0.mk A140
          clear A140
          by_cases c15 : t110 = t113
          · rw [if_pos c15] at H
            have c15b0 : (t110 == t113) = true := beq_iff_eq.mpr c15
            have c15b1 : (t110 != t113) = false := bne_eq_false_iff_eq.mpr c15
            clear c15
            replace H := Option.bind_eq_some_iff.mp H
            obtain ⟨t114, A160, H⟩ := H
            replace H : ((casketlaw26_product.f k t107 t111).bind fun t115 => (if t114 = t115 then ((casketlaw26_product.f k t107 (Go.bits .xor .i64 t108 t109)).bind fun t116 => (casketlaw26_SharesField.j0 k t107 t108 t110 (t116 != (Go.bits .xor .i64 t110 t112)))) else (casketlaw26_SharesField.j0 k t107 t108 t110 true))) = some r := H
            have A16 := Aside0.mk A160
            clear A160
            replace H := Option.bind_eq_some_iff.mp H
            obtain ⟨t115, A170, H⟩ := H
            replace H : (if t114 = t115 then ((casketlaw26_product.f k t107 (Go.bits .xor .i64 t108 t109)).bind fun t116 => (casketlaw26_SharesField.j0 k t107 t108 t110 (t116 != (Go.bits .xor .i64 t110 t112)))) else (casketlaw26_SharesField.j0 k t107 t108 t110 true)) = some r := H
            have A17 := Aside0.mk A170
            clear A170
            by_cases c18 : t114 = t115
            · rw [if_pos c18] at H
              have c18b0 : (t114 == t115) = true := beq_iff_eq.mpr c18
              have c18b1 : (t114 != t115) = false := bne_eq_false_iff_eq.mpr c18
              clear c18
              replace H := Option.bind_eq_some_iff.mp H
              obtain ⟨t116, A190, H⟩ := H
              replace H : (casketlaw26_SharesField.j0 k t107 t108 t110 (t116 != (Go.bits .xor .i64 t110 t112))) = some r := H
              have A19 := Aside0.mk A190
              clear A190
              have H' := Aside0.mk H
              clear H
              go_wp2_with (first | (go_at_call 17; (with_reducible refine (casketlaw26_product.calls k t108 t107 t113 _ A14.out).mono ?_); rintro e w' ⟨rfl, ⟨nd, rfl⟩⟩) | (go_at_call 17; (with_reducible refine (casketlaw26_product.calls k t110 t109 t114 _ A16.out).mono ?_); rintro e w' ⟨rfl, ⟨nd, rfl⟩⟩) | (go_at_call 17; (with_reducible refine (casketlaw26_product.calls k t107 t111 t115 _ A17.out).mono ?_); rintro e w' ⟨rfl, ⟨nd, rfl⟩⟩) | (go_at_call 17; (with_reducible refine (casketlaw26_product.calls k t107 (Go.bits .xor .i64 t108 t109) t116 _ A19.out).mono ?_); rintro e w' ⟨rfl, ⟨nd, rfl⟩⟩))
              go_meet
              case rel => exact ⟨_, ((t116 != (Go.bits .xor .i64 t110 t112))), (by first | rfl | (simp; done) | (simp [*]; done)), H', ⟨by first | omega | exact Nat.le_refl _⟩, by repeat (first | exact Drawn0.refl _ | apply Drawn0.step)⟩
            · rw [if_neg c18] at H
              have c18b0 : (t114 == t115) = false := beq_eq_false_iff_ne.mpr c18
              have c18b1 : (t114 != t115) = true := bne_iff_ne.mpr c18
              have H' := Aside0.mk H
              clear H
              go_wp2_with (first | (go_at_call 17; (with_reducible refine (casketlaw26_product.calls k t108 t107 t113 _ A14.out).mono ?_); rintro e w' ⟨rfl, ⟨nd, rfl⟩⟩) | (go_at_call 17; (with_reducible refine (casketlaw26_product.calls k t110 t109 t114 _ A16.out).mono ?_); rintro e w' ⟨rfl, ⟨nd, rfl⟩⟩) | (go_at_call 17; (with_reducible refine (casketlaw26_product.calls k t107 t111 t115 _ A17.out).mono ?_); rintro e w' ⟨rfl, ⟨nd, rfl⟩⟩))
              go_meet
              case rel => exact ⟨_, (true), (by first | rfl | (simp; done) | (simp [*]; done)), H', ⟨by first | omega | exact Nat.le_refl _⟩, by repeat (first | exact Drawn0.refl _ | apply Drawn0.step)⟩
          · rw [if_neg c15] at H
            have c15b0 : (t110 == t113) = false := beq_eq_false_iff_ne.mpr c15
            have c15b1 : (t110 != t113) = true := bne_iff_ne.mpr c15
            have H' := Aside0.mk H
            clear H
            go_wp2_with (first | (go_at_call 17; (with_reducible refine (casketlaw26_product.calls k t108 t107 t113 _ A14.out).mono ?_); rintro e w' ⟨rfl, ⟨nd, rfl⟩⟩))
            go_meet
            case rel => exact ⟨_, (true), (by first | rfl | (simp; done) | (simp [*]; done)), H', ⟨by first | omega | exact Nat.le_refl _⟩, by repeat (first | exact Drawn0.refl _ | apply Drawn0.step)⟩
  case rest =>
    clear HC10
    try clear c1
    try clear p2
    try clear c5
    try clear c11
    try clear c11b0
    try clear c12
    try clear c12b0
    try clear c13
    try clear c13b0
    try clear c15
    try clear c15b0
    try clear c15b1
    try clear c16
    try clear c17
    try clear c18
    try clear c18b0
    try clear c18b1
    obtain ⟨kq, x67_9, rfl, HA, HJ9, ⟨mc9, rfl⟩⟩ := hcut
    cases kq with
    | zero => exact absurd HA.out (by simp [casketlaw26_SharesField.j0])
    | succ kj9 =>
      have H := HA.out
      clear HA
      simp only [casketlaw26_SharesField.j0] at H
      by_cases c20 : x67_9 = true
      · subst c20
        have H1 : (some false) = some r := by rw [if_pos rfl] at H; exact H
        clear H
        have H := H1
        clear H1
        obtain rfl := Option.some.inj H
        go_wp2
        go_ret
        exact ⟨by first | rfl | (simp; done) | (simp [*]; done), by repeat (first | exact Drawn0.refl _ | apply Drawn0.step)⟩
      · replace c20 := Bool.eq_false_iff.mpr c20
        subst c20
        have H1 : ((casketlaw26_product.f kj9 t107 1).bind fun t117 => (if t117 = t107 then ((casketlaw26_product.f kj9 t107 0).bind fun t118 => (if t118 = 0 then (if t107 = 0 then (casketlaw26_SharesField.j1 kj9 t107 ((t110 == 0) != true)) else (casketlaw26_SharesField.j1 kj9 t107 ((t110 == 0) != (t108 == 0)))) else (casketlaw26_SharesField.j1 kj9 t107 true))) else (casketlaw26_SharesField.j1 kj9 t107 true))) = some r := by rw [if_neg (show ¬ (false = true) by decide)] at H; exact H
        clear H
        have H := H1
        clear H1
        have HC21 := Aside0.mk H
        clear H
        go_upto_region 9 with (fail)
        go_cut [87] (fun v87 wc => ∃ (kq : Nat) (x87_20 : Bool), v87 = .bool x87_20 ∧ Aside0 (casketlaw26_SharesField.j1 kq t107 x87_20 = some r) ∧ Aside0 (kq ≤ kj9) ∧ Drawn0 w wc)
        case first =>
          have H := HC21.out
          clear HC21
          replace H := Option.bind_eq_some_iff.mp H
          obtain ⟨t117, A220, H⟩ := H
          replace H : (if t117 = t107 then ((casketlaw26_product.f kj9 t107 0).bind fun t118 => (if t118 = 0 then (if t107 = 0 then (casketlaw26_SharesField.j1 kj9 t107 ((t110 == 0) != true)) else (casketlaw26_SharesField.j1 kj9 t107 ((t110 == 0) != (t108 == 0)))) else (casketlaw26_SharesField.j1 kj9 t107 true))) else (casketlaw26_SharesField.j1 kj9 t107 true)) = some r := H
          have A22 := Aside0.mk A220
          clear A220
          by_cases c23 : t117 = t107
          · rw [if_pos c23] at H
            have c23b0 : (t117 == t107) = true := beq_iff_eq.mpr c23
            have c23b1 : (t117 != t107) = false := bne_eq_false_iff_eq.mpr c23
            clear c23
            (first | rw [c23b0] | (simp only [i64_w, i32_w]; rw [c23b0]) | skip)
            replace H := Option.bind_eq_some_iff.mp H
            obtain ⟨t118, A240, H⟩ := H
            replace H : (if t118 = 0 then (if t107 = 0 then (casketlaw26_SharesField.j1 kj9 t107 ((t110 == 0) != true)) else (casketlaw26_SharesField.j1 kj9 t107 ((t110 == 0) != (t108 == 0)))) else (casketlaw26_SharesField.j1 kj9 t107 true)) = some r := H
            have A24 := Aside0.mk A240
            clear A240
            by_cases c25 : t118 = 0
            · rw [if_pos c25] at H
              have c25b0 : (t118 == 0) = true := beq_iff_eq.mpr c25
              have c25b1 : (t118 != 0) = false := bne_eq_false_iff_eq.mpr c25
              clear c25
              by_cases c26 : t107 = 0
              · rw [if_pos c26] at H
                have c26b0 : (t107 == 0) = true := beq_iff_eq.mpr c26
                have c26b1 : (t107 != 0) = false := bne_eq_false_iff_eq.mpr c26
                clear c26
                have H' := Aside0.mk H
                clear H
                go_wp2_with (first | ((with_reducible refine gate_callee (f := 17) rfl ?_); refine goesL_ (some 69) rfl rfl Try.func17 (by kernel_rfl) rfl #[.int .i64 t107, .int .i64 1] rfl (by (try simp only [List.map_toArray, List.map_cons, List.map_nil]); first | done | rfl | (simp only [List.length_drop, List.length_take]; rfl)) ?_; (with_reducible refine (casketlaw26_product.calls kj9 t107 1 t117 _ A22.out).mono ?_); rintro e w' ⟨rfl, ⟨nd, rfl⟩⟩; refine ⟨_, rfl, ?_⟩) | (go_at_call 17; (with_reducible refine (casketlaw26_product.calls kj9 t107 0 t118 _ A24.out).mono ?_); rintro e w' ⟨rfl, ⟨nd, rfl⟩⟩))
                go_meet
                case rel => exact ⟨_, (((t110 == 0) != true)), (by first | rfl | (simp; done) | (simp [*]; done)), H', ⟨by have := HJ9.out; first | omega | exact Nat.le_refl _⟩, by repeat (first | exact Drawn0.refl _ | apply Drawn0.step)⟩
              · rw [if_neg c26] at H
                have c26b0 : (t107 == 0) = false := beq_eq_false_iff_ne.mpr c26
                have c26b1 : (t107 != 0) = true := bne_iff_ne.mpr c26
                have H' := Aside0.mk H
                clear H
                go_wp2_with (first | ((with_reducible refine gate_callee (f := 17) rfl ?_); refine goesL_ (some 69) rfl rfl Try.func17 (by kernel_rfl) rfl #[.int .i64 t107, .int .i64 1] rfl (by (try simp only [List.map_toArray, List.map_cons, List.map_nil]); first | done | rfl | (simp only [List.length_drop, List.length_take]; rfl)) ?_; (with_reducible refine (casketlaw26_product.calls kj9 t107 1 t117 _ A22.out).mono ?_); rintro e w' ⟨rfl, ⟨nd, rfl⟩⟩; refine ⟨_, rfl, ?_⟩) | (go_at_call 17; (with_reducible refine (casketlaw26_product.calls kj9 t107 0 t118 _ A24.out).mono ?_); rintro e w' ⟨rfl, ⟨nd, rfl⟩⟩))
                go_meet
                case rel => exact ⟨_, (((t110 == 0) != (t108 == 0))), (by first | rfl | (simp; done) | (simp [*]; done)), H', ⟨by have := HJ9.out; first | omega | exact Nat.le_refl _⟩, by repeat (first | exact Drawn0.refl _ | apply Drawn0.step)⟩
            · rw [if_neg c25] at H
              have c25b0 : (t118 == 0) = false := beq_eq_false_iff_ne.mpr c25
              have c25b1 : (t118 != 0) = true := bne_iff_ne.mpr c25
              have H' := Aside0.mk H
              clear H
              go_wp2_with (first | ((with_reducible refine gate_callee (f := 17) rfl ?_); refine goesL_ (some 69) rfl rfl Try.func17 (by kernel_rfl) rfl #[.int .i64 t107, .int .i64 1] rfl (by (try simp only [List.map_toArray, List.map_cons, List.map_nil]); first | done | rfl | (simp only [List.length_drop, List.length_take]; rfl)) ?_; (with_reducible refine (casketlaw26_product.calls kj9 t107 1 t117 _ A22.out).mono ?_); rintro e w' ⟨rfl, ⟨nd, rfl⟩⟩; refine ⟨_, rfl, ?_⟩) | (go_at_call 17; (with_reducible refine (casketlaw26_product.calls kj9 t107 0 t118 _ A24.out).mono ?_); rintro e w' ⟨rfl, ⟨nd, rfl⟩⟩))
              go_meet
              case rel => exact ⟨_, (true), (by first | rfl | (simp; done) | (simp [*]; done)), H', ⟨by have := HJ9.out; first | omega | exact Nat.le_refl _⟩, by repeat (first | exact Drawn0.refl _ | apply Drawn0.step)⟩
          · rw [if_neg c23] at H
            have c23b0 : (t117 == t107) = false := beq_eq_false_iff_ne.mpr c23
            have c23b1 : (t117 != t107) = true := bne_iff_ne.mpr c23
            (first | rw [c23b0] | (simp only [i64_w, i32_w]; rw [c23b0]) | skip)
            have H' := Aside0.mk H
            clear H
            go_wp2_with (first | ((with_reducible refine gate_callee (f := 17) rfl ?_); refine goesL_ (some 69) rfl rfl Try.func17 (by kernel_rfl) rfl #[.int .i64 t107, .int .i64 1] rfl (by (try simp only [List.map_toArray, List.map_cons, List.map_nil]); first | done | rfl | (simp only [List.length_drop, List.length_take]; rfl)) ?_; (with_reducible refine (casketlaw26_product.calls kj9 t107 1 t117 _ A22.out).mono ?_); rintro e w' ⟨rfl, ⟨nd, rfl⟩⟩; refine ⟨_, rfl, ?_⟩))
            go_meet
            case rel => exact ⟨_, (true), (by first | rfl | (simp; done) | (simp [*]; done)), H', ⟨by have := HJ9.out; first | omega | exact Nat.le_refl _⟩, by repeat (first | exact Drawn0.refl _ | apply Drawn0.step)⟩
        case rest =>
          clear HC21
          try clear c1
          try clear c2
          try clear p2
          try clear c5
          try clear c9
          try clear c11
          try clear c11b0
          try clear c12
          try clear c12b0
          try clear c13
          try clear c13b0
          try clear c15
          try clear c15b0
          try clear c15b1
          try clear c16
          try clear c17
          try clear c18
          try clear c18b0
          try clear c18b1
          try clear c20
          try clear c23
          try clear c23b0
          try clear c23b1
          try clear c25
          try clear c25b0
          try clear c25b1
          try clear c26
          try clear c26b0
          try clear c26b1
          try clear p2
          obtain ⟨kq, x87_20, rfl, HA, HJ20, ⟨mc20, rfl⟩⟩ := hcut
          cases kq with
          | zero => exact absurd HA.out (by simp [casketlaw26_SharesField.j1])
          | succ kj20 =>
            have H := HA.out
            clear HA
            simp only [casketlaw26_SharesField.j1] at H
            by_cases c27 : x87_20 = true
            · subst c27
              have H1 : (some false) = some r := by rw [if_pos rfl] at H; exact H
              clear H
              have H := H1
              clear H1
              obtain rfl := Option.some.inj H
              go_wp2
              go_ret
              exact ⟨by first | rfl | (simp; done) | (simp [*]; done), by repeat (first | exact Drawn0.refl _ | apply Drawn0.step)⟩
            · replace c27 := Bool.eq_false_iff.mpr c27
              subst c27
              have H1 : (if (wrap64 (2 * t107)) > 255 then (casketlaw26_SharesField.j2 kj20 t107 (Go.bits .xor .i64 (wrap64 (2 * t107)) 283)) else (casketlaw26_SharesField.j2 kj20 t107 (wrap64 (2 * t107)))) = some r := by rw [if_neg (show ¬ (false = true) by decide)] at H; exact H
              clear H
              have H := H1
              clear H1
              have HC28 := Aside0.mk H
              clear H
              go_upto_if 91 with (fail)
              go_cut [13] (fun v13 wc => ∃ (kq : Nat) (x13_27 : Int), v13 = .int .i64 x13_27 ∧ Aside0 (casketlaw26_SharesField.j2 kq t107 x13_27 = some r) ∧ Aside0 (kq ≤ kj20) ∧ Drawn0 w wc)
              case first =>
                have H := HC28.out
                clear HC28
                by_cases c29 : (wrap64 (2 * t107)) > 255
                · rw [if_pos c29] at H
                  have c29b0 : decide (255 < (wrap64 (2 * t107))) = true := decide_eq_true c29
                  clear c29
                  (first | rw [c29b0] | (simp only [i64_w, i32_w]; rw [c29b0]) | skip)
                  have H' := Aside0.mk H
                  clear H
                  go_wp2
                  go_meet
                  case rel => exact ⟨_, (Go.bits .xor .i64 (wrap64 (2 * t107)) 283), (by first | rfl | (simp; done) | (simp [*]; done)), H', ⟨by have := HJ9.out; have := HJ20.out; first | omega | exact Nat.le_refl _⟩, by repeat (first | exact Drawn0.refl _ | apply Drawn0.step)⟩
                · rw [if_neg c29] at H
                  have c29b0 : decide (255 < (wrap64 (2 * t107))) = false := decide_eq_false c29
                  clear c29
                  (first | rw [c29b0] | (simp only [i64_w, i32_w]; rw [c29b0]) | skip)
                  have H' := Aside0.mk H
                  clear H
                  go_wp2
                  go_meet
                  case rel => exact ⟨_, (wrap64 (2 * t107)), (by first | rfl | (simp; done) | (simp [*]; done)), H', ⟨by have := HJ9.out; have := HJ20.out; first | omega | exact Nat.le_refl _⟩, by repeat (first | exact Drawn0.refl _ | apply Drawn0.step)⟩
              case rest =>
                clear HC28
                try clear c1
                try clear c2
                try clear p2
                try clear c5
                try clear p6
                try clear c9
                try clear c11
                try clear c11b0
                try clear c12
                try clear c12b0
                try clear c13
                try clear c13b0
                try clear c15
                try clear c15b0
                try clear c15b1
                try clear c16
                try clear c17
                try clear c18
                try clear c18b0
                try clear c18b1
                try clear c20
                try clear c23
                try clear c23b0
                try clear c23b1
                try clear c25
                try clear c25b0
                try clear c25b1
                try clear c26
                try clear c26b0
                try clear c26b1
                try clear c27
                try clear c29
                try clear c29b0
                try clear p2
                obtain ⟨kq, x13_27, rfl, HA, HJ27, ⟨mc27, rfl⟩⟩ := hcut
                cases kq with
                | zero => exact absurd HA.out (by simp [casketlaw26_SharesField.j2])
                | succ kj27 =>
                  have H := HA.out
                  clear HA
                  simp only [casketlaw26_SharesField.j2] at H
                  replace H := Option.bind_eq_some_iff.mp H
                  obtain ⟨t119, A300, H⟩ := H
                  replace H : (if t119 = x13_27 then ((shares_Inv.f kj27 t107).bind fun bt120 => (if t107 = 0 then ((casketlaw26_num.f bt120.2).bind fun t122 => (if t122 = 1 then (some (bt120.1 == 0)) else (some false))) else ((casketlaw26_num.f bt120.2).bind fun t123 => (if t123 = 0 then ((casketlaw26_product.f kj27 t107 bt120.1).bind fun t124 => (some (t124 == 1))) else (some false))))) else (some false)) = some r := H
                  have A30 := Aside0.mk A300
                  clear A300
                  by_cases c31 : t119 = x13_27
                  · rw [if_pos c31] at H
                    have c31b0 : (t119 == x13_27) = true := beq_iff_eq.mpr c31
                    have c31b1 : (t119 != x13_27) = false := bne_eq_false_iff_eq.mpr c31
                    clear c31
                    replace H := Option.bind_eq_some_iff.mp H
                    obtain ⟨⟨t120, t121⟩, A320, H⟩ := H
                    replace H : (if t107 = 0 then ((casketlaw26_num.f t121).bind fun t122 => (if t122 = 1 then (some (t120 == 0)) else (some false))) else ((casketlaw26_num.f t121).bind fun t123 => (if t123 = 0 then ((casketlaw26_product.f kj27 t107 t120).bind fun t124 => (some (t124 == 1))) else (some false)))) = some r := H
                    have A32 := Aside0.mk A320
                    clear A320
                    by_cases c33 : t107 = 0
                    · rw [if_pos c33] at H
                      have c33b0 : (t107 == 0) = true := beq_iff_eq.mpr c33
                      have c33b1 : (t107 != 0) = false := bne_eq_false_iff_eq.mpr c33
                      clear c33
                      replace H := Option.bind_eq_some_iff.mp H
                      obtain ⟨t122, A340, H⟩ := H
                      replace H : (if t122 = 1 then (some (t120 == 0)) else (some false)) = some r := H
                      have A34 := Aside0.mk A340
                      clear A340
                      by_cases c35 : t122 = 1
                      · rw [if_pos c35] at H
                        have c35b0 : (t122 == 1) = true := beq_iff_eq.mpr c35
                        have c35b1 : (t122 != 1) = false := bne_eq_false_iff_eq.mpr c35
                        clear c35
                        obtain rfl := Option.some.inj H
                        go_wp2_with (first | ((with_reducible refine gate_callee (f := 17) rfl ?_); refine goesL_ (some 95) rfl rfl Try.func17 (by kernel_rfl) rfl #[.int .i64 t107, .int .i64 2] rfl (by (try simp only [List.map_toArray, List.map_cons, List.map_nil]); first | done | rfl | (simp only [List.length_drop, List.length_take]; rfl)) ?_; (with_reducible refine (casketlaw26_product.calls kj27 t107 2 t119 _ A30.out).mono ?_); rintro e w' ⟨rfl, ⟨nd, rfl⟩⟩; refine ⟨_, rfl, ?_⟩) | ((with_reducible refine gate_callee (f := 13) rfl ?_); refine goesL_ (some 100) rfl rfl Try.func13 (by kernel_rfl) rfl #[.int .i64 t107] rfl (by (try simp only [List.map_toArray, List.map_cons, List.map_nil]); first | done | rfl | (simp only [List.length_drop, List.length_take]; rfl)) ?_; (with_reducible refine (shares_Inv.calls kj27 t107 t120 t121 _ A32.out).mono ?_); rintro e w' ⟨rfl, ⟨nd, rfl⟩⟩; refine ⟨_, rfl, ?_⟩) | ((with_reducible refine gate_callee (f := 15) rfl ?_); refine goesL_ (some 106) rfl rfl Try.func15 (by kernel_rfl) rfl #[.int .i64 t121] rfl (by (try simp only [List.map_toArray, List.map_cons, List.map_nil]); first | done | rfl | (simp only [List.length_drop, List.length_take]; rfl)) ?_; (with_reducible refine (casketlaw26_num.calls t121 t122 _ A34.out).mono ?_); rintro e w' ⟨rfl, ⟨nd, rfl⟩⟩; refine ⟨_, rfl, ?_⟩))
                        go_ret
                        exact ⟨by first | rfl | (simp; done) | (simp [*]; done), by repeat (first | exact Drawn0.refl _ | apply Drawn0.step)⟩
                      · rw [if_neg c35] at H
                        have c35b0 : (t122 == 1) = false := beq_eq_false_iff_ne.mpr c35
                        have c35b1 : (t122 != 1) = true := bne_iff_ne.mpr c35
                        obtain rfl := Option.some.inj H
                        go_wp2_with (first | ((with_reducible refine gate_callee (f := 17) rfl ?_); refine goesL_ (some 95) rfl rfl Try.func17 (by kernel_rfl) rfl #[.int .i64 t107, .int .i64 2] rfl (by (try simp only [List.map_toArray, List.map_cons, List.map_nil]); first | done | rfl | (simp only [List.length_drop, List.length_take]; rfl)) ?_; (with_reducible refine (casketlaw26_product.calls kj27 t107 2 t119 _ A30.out).mono ?_); rintro e w' ⟨rfl, ⟨nd, rfl⟩⟩; refine ⟨_, rfl, ?_⟩) | ((with_reducible refine gate_callee (f := 13) rfl ?_); refine goesL_ (some 100) rfl rfl Try.func13 (by kernel_rfl) rfl #[.int .i64 t107] rfl (by (try simp only [List.map_toArray, List.map_cons, List.map_nil]); first | done | rfl | (simp only [List.length_drop, List.length_take]; rfl)) ?_; (with_reducible refine (shares_Inv.calls kj27 t107 t120 t121 _ A32.out).mono ?_); rintro e w' ⟨rfl, ⟨nd, rfl⟩⟩; refine ⟨_, rfl, ?_⟩) | ((with_reducible refine gate_callee (f := 15) rfl ?_); refine goesL_ (some 106) rfl rfl Try.func15 (by kernel_rfl) rfl #[.int .i64 t121] rfl (by (try simp only [List.map_toArray, List.map_cons, List.map_nil]); first | done | rfl | (simp only [List.length_drop, List.length_take]; rfl)) ?_; (with_reducible refine (casketlaw26_num.calls t121 t122 _ A34.out).mono ?_); rintro e w' ⟨rfl, ⟨nd, rfl⟩⟩; refine ⟨_, rfl, ?_⟩))
                        go_ret
                        exact ⟨by first | rfl | (simp; done) | (simp [*]; done), by repeat (first | exact Drawn0.refl _ | apply Drawn0.step)⟩
                    · rw [if_neg c33] at H
                      have c33b0 : (t107 == 0) = false := beq_eq_false_iff_ne.mpr c33
                      have c33b1 : (t107 != 0) = true := bne_iff_ne.mpr c33
                      replace H := Option.bind_eq_some_iff.mp H
                      obtain ⟨t123, A360, H⟩ := H
                      replace H : (if t123 = 0 then ((casketlaw26_product.f kj27 t107 t120).bind fun t124 => (some (t124 == 1))) else (some false)) = some r := H
                      have A36 := Aside0.mk A360
                      clear A360
                      by_cases c37 : t123 = 0
                      · rw [if_pos c37] at H
                        have c37b0 : (t123 == 0) = true := beq_iff_eq.mpr c37
                        have c37b1 : (t123 != 0) = false := bne_eq_false_iff_eq.mpr c37
                        clear c37
                        replace H := Option.bind_eq_some_iff.mp H
                        obtain ⟨t124, A380, H⟩ := H
                        replace H : (some (t124 == 1)) = some r := H
                        have A38 := Aside0.mk A380
                        clear A380
                        obtain rfl := Option.some.inj H
                        go_wp2_with (first | ((with_reducible refine gate_callee (f := 17) rfl ?_); refine goesL_ (some 95) rfl rfl Try.func17 (by kernel_rfl) rfl #[.int .i64 t107, .int .i64 2] rfl (by (try simp only [List.map_toArray, List.map_cons, List.map_nil]); first | done | rfl | (simp only [List.length_drop, List.length_take]; rfl)) ?_; (with_reducible refine (casketlaw26_product.calls kj27 t107 2 t119 _ A30.out).mono ?_); rintro e w' ⟨rfl, ⟨nd, rfl⟩⟩; refine ⟨_, rfl, ?_⟩) | ((with_reducible refine gate_callee (f := 13) rfl ?_); refine goesL_ (some 100) rfl rfl Try.func13 (by kernel_rfl) rfl #[.int .i64 t107] rfl (by (try simp only [List.map_toArray, List.map_cons, List.map_nil]); first | done | rfl | (simp only [List.length_drop, List.length_take]; rfl)) ?_; (with_reducible refine (shares_Inv.calls kj27 t107 t120 t121 _ A32.out).mono ?_); rintro e w' ⟨rfl, ⟨nd, rfl⟩⟩; refine ⟨_, rfl, ?_⟩) | ((with_reducible refine gate_callee (f := 15) rfl ?_); refine goesL_ (some 113) rfl rfl Try.func15 (by kernel_rfl) rfl #[.int .i64 t121] rfl (by (try simp only [List.map_toArray, List.map_cons, List.map_nil]); first | done | rfl | (simp only [List.length_drop, List.length_take]; rfl)) ?_; (with_reducible refine (casketlaw26_num.calls t121 t123 _ A36.out).mono ?_); rintro e w' ⟨rfl, ⟨nd, rfl⟩⟩; refine ⟨_, rfl, ?_⟩) | (go_at_call 17; (with_reducible refine (casketlaw26_product.calls kj27 t107 t120 t124 _ A38.out).mono ?_); rintro e w' ⟨rfl, ⟨nd, rfl⟩⟩))
                        go_ret
                        exact ⟨by first | rfl | (simp; done) | (simp [*]; done), by repeat (first | exact Drawn0.refl _ | apply Drawn0.step)⟩
                      · rw [if_neg c37] at H
                        have c37b0 : (t123 == 0) = false := beq_eq_false_iff_ne.mpr c37
                        have c37b1 : (t123 != 0) = true := bne_iff_ne.mpr c37
                        obtain rfl := Option.some.inj H
                        go_wp2_with (first | ((with_reducible refine gate_callee (f := 17) rfl ?_); refine goesL_ (some 95) rfl rfl Try.func17 (by kernel_rfl) rfl #[.int .i64 t107, .int .i64 2] rfl (by (try simp only [List.map_toArray, List.map_cons, List.map_nil]); first | done | rfl | (simp only [List.length_drop, List.length_take]; rfl)) ?_; (with_reducible refine (casketlaw26_product.calls kj27 t107 2 t119 _ A30.out).mono ?_); rintro e w' ⟨rfl, ⟨nd, rfl⟩⟩; refine ⟨_, rfl, ?_⟩) | ((with_reducible refine gate_callee (f := 13) rfl ?_); refine goesL_ (some 100) rfl rfl Try.func13 (by kernel_rfl) rfl #[.int .i64 t107] rfl (by (try simp only [List.map_toArray, List.map_cons, List.map_nil]); first | done | rfl | (simp only [List.length_drop, List.length_take]; rfl)) ?_; (with_reducible refine (shares_Inv.calls kj27 t107 t120 t121 _ A32.out).mono ?_); rintro e w' ⟨rfl, ⟨nd, rfl⟩⟩; refine ⟨_, rfl, ?_⟩) | ((with_reducible refine gate_callee (f := 15) rfl ?_); refine goesL_ (some 113) rfl rfl Try.func15 (by kernel_rfl) rfl #[.int .i64 t121] rfl (by (try simp only [List.map_toArray, List.map_cons, List.map_nil]); first | done | rfl | (simp only [List.length_drop, List.length_take]; rfl)) ?_; (with_reducible refine (casketlaw26_num.calls t121 t123 _ A36.out).mono ?_); rintro e w' ⟨rfl, ⟨nd, rfl⟩⟩; refine ⟨_, rfl, ?_⟩))
                        go_ret
                        exact ⟨by first | rfl | (simp; done) | (simp [*]; done), by repeat (first | exact Drawn0.refl _ | apply Drawn0.step)⟩
                  · rw [if_neg c31] at H
                    have c31b0 : (t119 == x13_27) = false := beq_eq_false_iff_ne.mpr c31
                    have c31b1 : (t119 != x13_27) = true := bne_iff_ne.mpr c31
                    obtain rfl := Option.some.inj H
                    go_wp2_with (first | ((with_reducible refine gate_callee (f := 17) rfl ?_); refine goesL_ (some 95) rfl rfl Try.func17 (by kernel_rfl) rfl #[.int .i64 t107, .int .i64 2] rfl (by (try simp only [List.map_toArray, List.map_cons, List.map_nil]); first | done | rfl | (simp only [List.length_drop, List.length_take]; rfl)) ?_; (with_reducible refine (casketlaw26_product.calls kj27 t107 2 t119 _ A30.out).mono ?_); rintro e w' ⟨rfl, ⟨nd, rfl⟩⟩; refine ⟨_, rfl, ?_⟩))
                    go_ret
                    exact ⟨by first | rfl | (simp; done) | (simp [*]; done), by repeat (first | exact Drawn0.refl _ | apply Drawn0.step)⟩

/-- THE ONE PURE STATEMENT of casketlaw26_SharesField: yours. -/
def casketlaw26_SharesField.Pure : Prop := ∀ (a0 : Int) (a1 : Int) (a2 : Int), (Lit.int .i64 a0).wf = true → (Lit.int .i64 a1).wf = true → (Lit.int .i64 a2).wf = true → ∃ k, casketlaw26_SharesField.f k a0 a1 a2 = some true
theorem casketlaw26_SharesField.walk (P : casketlaw26_SharesField.Pure) (a0 : Int) (a1 : Int) (a2 : Int) (w : World) (w0 : (Lit.int .i64 a0).wf = true) (w1 : (Lit.int .i64 a1).wf = true) (w2 : (Lit.int .i64 a2).wf = true) :
    Calls Try.prog 5 #[.int .i64 a0, .int .i64 a1, .int .i64 a2] w fun e w' => e = .returned (.bool true) ∧ Below w.heap.size w w' := by
  obtain ⟨k, h⟩ := P a0 a1 a2 w0 w1 w2
  refine (casketlaw26_SharesField.calls k a0 a1 a2 true w h).mono ?_
  rintro e w' ⟨rfl, hd⟩
  exact ⟨rfl, hd.below⟩

end Go.Proofs.Ytfoigonlbhecdaa.PSharesField
