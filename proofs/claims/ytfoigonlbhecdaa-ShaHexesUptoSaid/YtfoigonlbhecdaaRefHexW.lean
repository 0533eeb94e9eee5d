/- Hex and Unhex of the document. -/
import Derived.Test.YtfoigonlbhecdaaUnhexW
import Derived.Test.YtfoigonlbhecdaaUntil
namespace Go.Proofs.Ytfoigonlbhecdaa
open Go.RowKit Go.Lib Base Go.Joins
set_option linter.unusedVariables false
set_option linter.unusedSimpArgs false

theorem idxDigI (i : Nat) (h : i < 16) (w : World) : (Instr.index 9 (.string ⟨#[48, 49, 50, 51, 52, 53, 54, 55, 56, 57, 97, 98, 99, 100, 101, 102]⟩) (.int .i64 i)).run Try.prog w = .ok (.int .u8 (bt (dg (UInt8.ofNat i)))) w := by
  obtain rfl | rfl | rfl | rfl | rfl | rfl | rfl | rfl | rfl | rfl | rfl | rfl | rfl | rfl | rfl | rfl : i = 0 ∨ i = 1 ∨ i = 2 ∨ i = 3 ∨ i = 4 ∨ i = 5 ∨ i = 6 ∨ i = 7 ∨ i = 8 ∨ i = 9 ∨ i = 10 ∨ i = 11 ∨ i = 12 ∨ i = 13 ∨ i = 14 ∨ i = 15 := by omega
  all_goals kernel_rfl
theorem dv_hit (c : UInt8) (k : Nat) (hk : k < 16) (h : dg (UInt8.ofNat k) = c) : dv c = k := by
  subst h
  obtain rfl | rfl | rfl | rfl | rfl | rfl | rfl | rfl | rfl | rfl | rfl | rfl | rfl | rfl | rfl | rfl : k = 0 ∨ k = 1 ∨ k = 2 ∨ k = 3 ∨ k = 4 ∨ k = 5 ∨ k = 6 ∨ k = 7 ∨ k = 8 ∨ k = 9 ∨ k = 10 ∨ k = 11 ∨ k = 12 ∨ k = 13 ∨ k = 14 ∨ k = 15 := by omega
  all_goals decide +kernel
theorem dv_miss (c : UInt8) : (∀ k : Fin 16, dg (UInt8.ofNat k.val) ≠ c) → dv c = -1 :=
  all8 (fun c => (∀ k : Fin 16, dg (UInt8.ofNat k.val) ≠ c) → dv c = -1) (by decide +kernel) c
theorem own_drewN {w : World} {base : Nat} {e : TypeId} {size : Nat} {v : Value} {n : Nat} {xs : List Value} (h : w.ownsRow base e size v n xs) (q : Nat) : (w.drewN q).ownsRow base e size v n xs := h
theorem bt_inj {x y : UInt8} (h : bt x = bt y) : x = y := by unfold bt at h; exact UInt8.toNat_inj.1 (by omega)

set_option maxRecDepth 100000 in
set_option maxHeartbeats 1000000 in
theorem refhex_any (d : ByteArray) (hd : d.size ≤ 4194304) (w : World) :
    Calls Try.prog 9 #[.string d] w fun e w' => e = .returned (.string ⟨(hexL d.data.toList).toArray⟩) ∧ Fr [] w w' := by
  have hi5 : (Try.prog.info? 5).map (fun i => (i.zero, i.size, i.bytes)) = some (some (.int .u8 0), 1, 1) := by kernel_rfl
  obtain ⟨iI, hiI, hz0, hz1, hz2⟩ := info_parts hi5
  obtain ⟨D, hD⟩ : ∃ D, D = d.data.toList := ⟨_, rfl⟩
  have hDl : D.length = d.size := by rw [hD]; simp
  rw [← hD]
  have HD := Lib.hid hD
  clear hD
  go_enter Try.func9, Try.ntmps9
  go_wp2_with fail
  go_loopw [3, 4] (fun v3 v4 wr => ∃ i : Nat, i ≤ d.size ∧ v4 = .int .i64 i ∧ wr.ownsRow w.heap.size 5 1 v3 (2 * i) (byteCells (hexL (D.take i))) ∧ Fr [] w wr) (fun _ v _ => d.size - (intOf v).toNat)
  case atStart => exact ⟨0, by omega, rfl, World.ownsRow_nil _ _ _ _, Fr.refl _ _⟩
  case round =>
    obtain ⟨i, hi, rfl, h0, hF⟩ := hrel
    by_cases hl : i < d.size
    · have l1 : (i : Int) < d.size := by omega
      obtain ⟨x, hx⟩ : ∃ x, x = D.getD i 0 := ⟨_, rfl⟩
      have gx : d[i] = x := bget _ (by rw [hx, ← HD.out]; simp [List.getD, show i < D.length by omega])
      have ht : D.take (i + 1) = D.take i ++ [x] := by
        rw [List.take_add_one, List.getElem?_eq_getElem (by omega), hx]; simp [List.getD, show i < D.length by omega]
      have HT := Lib.hid ht
      clear hx ht
      have i1 := idxDig (x >>> 4) (shr4_lt x)
      have i2 := idxDig (x &&& 15) (and15_lt x)
      have A2 := At.alloc_new wr.drew 5 #[Value.int .u8 (bt (dg (x >>> 4))), Value.int .u8 (bt (dg (x &&& 15)))]
      go_wp2_with fail
      refine wp_region_until (fun _ => True) (fun _ => True) 1000 (by rfl) ?_
      have hT : True := trivial
      refine until_t0 0 (v := ?_) rfl (by kernel_rfl) (fun _ _ _ h => h) (Or.inl ⟨by rfl, ?_⟩) (by assumption) (fun h => by first | assumption | exact absurd (h : true = false) (by decide)) ?_
      rotate_left
      · intro w hSw; (try dsimp only at hSw); (try go_simp); (try with_reducible rfl)
      try simp only [Act.put, List.setIfInBounds_toArray, List.set_cons_zero, List.set_cons_succ]
      refine until_t0 1 (v := ?_) rfl (by kernel_rfl) (fun _ _ _ h => h) (Or.inl ⟨by rfl, ?_⟩) (by assumption) (fun h => by first | assumption | exact absurd (h : true = false) (by decide)) ?_
      rotate_left
      · intro w hSw; (try dsimp only at hSw); (try go_simp); (try with_reducible rfl)
      try simp only [Act.put, List.setIfInBounds_toArray, List.set_cons_zero, List.set_cons_succ]
      refine until_t0 2 (v := ?_) rfl (by kernel_rfl) (fun _ _ _ h => h) (Or.inl ⟨by rfl, ?_⟩) (by assumption) (fun h => by first | assumption | exact absurd (h : true = false) (by decide)) ?_
      rotate_left
      · intro w hSw; (try dsimp only at hSw); (try go_simp); (try with_reducible rfl)
      try simp only [Act.put, List.setIfInBounds_toArray, List.set_cons_zero, List.set_cons_succ]
      refine until_t0 3 (v := ?_) rfl (by kernel_rfl) (fun _ _ _ h => h) (Or.inl ⟨by rfl, ?_⟩) (by assumption) (fun h => by first | assumption | exact absurd (h : true = false) (by decide)) ?_
      rotate_left
      · intro w hSw; (try dsimp only at hSw); (try go_simp); (try with_reducible rfl)
      try simp only [Act.put, List.setIfInBounds_toArray, List.set_cons_zero, List.set_cons_succ]
      refine until_t0 4 (v := ?_) rfl (by kernel_rfl) (fun _ _ _ h => h) (Or.inl ⟨by rfl, ?_⟩) (by assumption) (fun h => by first | assumption | exact absurd (h : true = false) (by decide)) ?_
      rotate_left
      · intro w hSw; (try dsimp only at hSw); (try go_simp); (try with_reducible rfl)
      try simp only [Act.put, List.setIfInBounds_toArray, List.set_cons_zero, List.set_cons_succ]
      refine until_t0 5 (v := ?_) rfl (by kernel_rfl) (fun _ _ _ h => h) (Or.inl ⟨by rfl, ?_⟩) (by assumption) (fun h => by first | assumption | exact absurd (h : true = false) (by decide)) ?_
      rotate_left
      · intro w hSw; (try dsimp only at hSw); (try go_simp); (try with_reducible rfl)
      try simp only [Act.put, List.setIfInBounds_toArray, List.set_cons_zero, List.set_cons_succ]
      refine until_t0 6 (v := ?_) rfl (by kernel_rfl) (fun _ _ _ h => h) (Or.inl ⟨by rfl, ?_⟩) (by assumption) (fun h => by first | assumption | exact absurd (h : true = false) (by decide)) ?_
      rotate_left
      · intro w hSw; (try dsimp only at hSw); (try go_simp); (try with_reducible rfl)
      try simp only [Act.put, List.setIfInBounds_toArray, List.set_cons_zero, List.set_cons_succ]
      refine until_t0 7 (v := ?_) rfl (by kernel_rfl) (fun _ _ _ h => h) (Or.inl ⟨by rfl, ?_⟩) (by assumption) (fun h => by first | assumption | exact absurd (h : true = false) (by decide)) ?_
      rotate_left
      · intro w hSw; (try dsimp only at hSw); (try go_simp); (try with_reducible rfl)
      try simp only [Act.put, List.setIfInBounds_toArray, List.set_cons_zero, List.set_cons_succ]
      refine until_t0 8 (v := ?_) rfl (by kernel_rfl) (fun _ _ _ h => h) (Or.inl ⟨by rfl, ?_⟩) (by assumption) (fun h => by first | assumption | exact absurd (h : true = false) (by decide)) ?_
      rotate_left
      · intro w hSw; (try dsimp only at hSw); (try go_simp); (try with_reducible rfl)
      try simp only [Act.put, List.setIfInBounds_toArray, List.set_cons_zero, List.set_cons_succ]
      refine until_t0 9 (v := ?_) rfl (by kernel_rfl) (fun _ _ _ h => h) (Or.inl ⟨by rfl, ?_⟩) (by assumption) (fun h => by first | assumption | exact absurd (h : true = false) (by decide)) ?_
      rotate_left
      · intro w hSw; (try dsimp only at hSw); (try go_simp); (try with_reducible rfl)
      try simp only [Act.put, List.setIfInBounds_toArray, List.set_cons_zero, List.set_cons_succ]
      refine until_t0 10 (v := ?_) rfl (by kernel_rfl) (fun _ _ _ h => h) (Or.inl ⟨by rfl, ?_⟩) (by assumption) (fun h => by first | assumption | exact absurd (h : true = false) (by decide)) ?_
      rotate_left
      · intro w hSw; (try dsimp only at hSw); (try go_simp); (try with_reducible rfl)
      try simp only [Act.put, List.setIfInBounds_toArray, List.set_cons_zero, List.set_cons_succ]
      refine until_only (i := 11) rfl (by kernel_rfl) (by rfl) ?_
      intro K' hK
      go_simp
      refine hK _ _ trivial (fun _ => trivial) ?_
      clear hK
      refine until_only (i := 12) rfl (by kernel_rfl) (by rfl) ?_
      intro K' hK
      refine wp_append_own _ _ _ _ rfl w.heap.size 5 iI (.int .u8 0) 1 1 Try.underlying40 hiI hz0 hz1 hz2 rfl (by decide) _ (2 * i) _ rfl (World.ownsRow.alloc (World.ownsRow.drew h0) _) ⟨wr.heap.size, 0, none⟩ 2 2 (byteCells [dg (x >>> 4), dg (x &&& 15)]) rfl rfl ?_ ?_ ?_ ?_ ?_ ?_
      case refine_1 => intro j u hj; rw [addr_add', Nat.zero_add]; exact (A2.cell j).trans hj
      case refine_2 => exact byteCells_one _
      case refine_3 => simp [maxLen]; omega
      case refine_4 => omega
      case refine_5 => have := hF.size; simp; omega
      intro v' w' hown hgr _
      refine hK _ _ trivial (fun _ => trivial) ?_
      clear hK
      refine until_only (i := 13) rfl (by kernel_rfl) (by rfl) ?_
      intro K' hK
      go_simp
      refine hK _ _ trivial (fun _ => trivial) ?_
      clear hK
      refine until_done (by kernel_rfl) ?_ _
      go_wp2_with fail
      refine ⟨⟨i + 1, by omega, by simp, ?_, ?_⟩, by simp only [intOf]; omega⟩
      · rw [HT.out]
        have e : hexL (D.take i ++ [x]) = hexL (D.take i) ++ [dg (x >>> 4), dg (x &&& 15)] := by simp [hexL, List.flatMap_append]
        rw [e, show 2 * (i + 1) = 2 * i + 2 by omega]
        simpa [byteCells] using hown
      · refine hF.new (S := u3.ownBlock.toList) (((Fr.drew _ _).trans (Fr.alloc _ _ _)).trans (Fr.ofGrown hgr (by intro k hk; rw [show u3.ownBlock = some k from hk]; simp))) (fun x hx => (h0.lt x (by simpa using hx)).1)
    · obtain rfl : i = d.size := by omega
      rw [List.take_of_length_le (by omega)] at h0
      have hcv := run_strOwn Try.underlying40 Try.underlying5 Try.underlying9 h0
      go_wp2_with fail
      go_ret
      exact ⟨rfl, hF⟩

set_option maxRecDepth 100000 in
theorem refdigit_any (c : UInt8) (w : World) : Calls Try.prog 19 #[.int .u8 (bt c)] w fun e w' => e = .returned (.int .i64 (dv c)) ∧ ∃ q, w' = w.drewN q := by
  go_enter Try.func19, Try.ntmps19
  go_wp2_with fail
  go_loopw [3] (fun v wr => ∃ i : Nat, i ≤ 16 ∧ v = .int .i64 i ∧ (∀ k, k < i → dg (UInt8.ofNat k) ≠ c) ∧ ∃ q, wr = w.drewN q) (fun v _ => 16 - (intOf v).toNat)
  case atStart => exact ⟨0, by omega, rfl, by intro k hk; omega, 0, rfl⟩
  case round =>
    obtain ⟨i, hi, rfl, hno, q, rfl⟩ := hrel
    have HNO := Lib.hid hno
    clear hno
    by_cases hl : i < 16
    · have l1 : (i : Int) < 16 := by omega
      have hix := idxDigI i hl
      by_cases he : dg (UInt8.ofNat i) = c
      · have hv := dv_hit c i hl he
        rw [he] at hix
        have HV := Lib.hid hv
        clear hv he
        go_wp2_with fail
        go_ret
        exact ⟨by rw [HV.out]; rfl, q, rfl⟩
      · have hne : ¬ bt (dg (UInt8.ofNat i)) = bt c := fun h => he (bt_inj h)
        have HE := Lib.hid he
        clear he
        generalize bt (dg (UInt8.ofNat i)) = x at hix hne
        go_wp2_with fail
        refine ⟨⟨i + 1, by omega, by simp, ?_, q, rfl⟩, by simp only [intOf]; omega⟩
        intro k hk
        by_cases hki : k = i
        · subst hki; exact HE.out
        · exact HNO.out k (by omega)
    · obtain rfl : i = 16 := by omega
      have HV := Lib.hid (dv_miss c (fun k => HNO.out k.val k.isLt))
      go_wp2_with fail
      go_ret
      exact ⟨by rw [HV.out]; rfl, q, rfl⟩

set_option maxRecDepth 100000 in
set_option maxHeartbeats 1000000 in
theorem refunhex_any (t : ByteArray) (ht : t.size ≤ 4194304) (w : World) :
    Calls Try.prog 8 #[.string t] w fun e w' => e = .returned (.tuple #[.string (unS t.data.toList), .int .i64 (unC t.data.toList)]) ∧ Fr [] w w' := by
  obtain ⟨T, hT⟩ : ∃ T, T = t.data.toList := ⟨_, rfl⟩
  have hTl : T.length = t.size := by rw [hT]; simp
  rw [← hT]
  have HT := Lib.hid hT
  clear hT
  by_cases hodd : t.size % 2 = 1
  · have hbad : unhexL T = none := unhex_odd T (by omega)
    have e1 : unS T = ⟨#[]⟩ := by unfold unS; rw [hbad]
    have e2 : unC T = 20 := by unfold unC; rw [hbad]
    rw [e1, e2]
    have o1 : (t.size : Int) % 2 = 1 := by omega
    clear hbad e1 e2 hodd hTl
    go_enter Try.func8, Try.ntmps8
    go_wp2_with fail
    go_ret2
    exact ⟨rfl, Fr.refl _ _⟩
  · obtain ⟨n, hn⟩ : ∃ n, t.size = 2 * n := ⟨t.size / 2, by omega⟩
    have o1 : (t.size : Int) % 2 = 0 := by omega
    have hi5 : (Try.prog.info? 5).map (fun i => (i.zero, i.size, i.bytes)) = some (some (.int .u8 0), 1, 1) := by kernel_rfl
    obtain ⟨iI, hiI, hz0, hz1, hz2⟩ := info_parts hi5
    have hnn : n ≤ 2097152 := by omega
    obtain ⟨R, hR⟩ : ∃ R, R = unR T n := ⟨_, rfl⟩
    have hRl : R.length = n := by rw [hR, unR_len]
    have HR := Lib.hid hR
    have HTL := Lib.hid (hTl.trans hn)
    have HN := Lib.hid hn
    clear hR hTl hn hodd
    go_enter Try.func8, Try.ntmps8
    go_wp2_with fail
    clear o1
    go_loopw [4, 5] (fun v4 v wr => ∃ i : Nat, i ≤ n ∧ v = .int .i64 (2 * i : Nat) ∧ (∀ k, k < i → 0 ≤ dv (T.getD (2 * k) 0) ∧ 0 ≤ dv (T.getD (2 * k + 1) 0)) ∧ wr.ownsRow w.heap.size 5 1 v4 i (byteCells (R.take i)) ∧ Fr [] w wr) (fun _ v _ => 2 * n - (intOf v).toNat)
    case atStart => exact ⟨0, by omega, rfl, by intro k hk; omega, World.ownsRow_nil _ _ _ _, Fr.refl _ _⟩
    case round =>
      obtain ⟨i, hi, rfl, hgood, h0, hF⟩ := hrel
      have HG := Lib.hid hgood
      clear hgood
      by_cases hl : i < n
      · have htl := HTL.out
        have htn := HN.out
        obtain ⟨a, ha⟩ : ∃ a, a = T.getD (2 * i) 0 := ⟨_, rfl⟩
        obtain ⟨b, hb⟩ : ∃ b, b = T.getD (2 * i + 1) 0 := ⟨_, rfl⟩
        have HA := Lib.hid ha
        have HB := Lib.hid hb
        have li0 : 2 * i < t.size := by omega
        have li1 : 2 * i + 1 < t.size := by omega
        have ga : t[2 * i]'li0 = a := bget _ (by rw [ha, ← HT.out]; simp [List.getD, show 2 * i < T.length by omega])
        have gb : t[2 * i + 1]'li1 = b := bget _ (by rw [hb, ← HT.out]; simp [List.getD, show 2 * i + 1 < T.length by omega])
        have k1 : (2 * (i : Int)) < t.size := by omega
        have k2 : (2 * (i : Int)) + 1 < t.size := by omega
        have k3 : (0 : Int) ≤ 2 * (i : Int) := by omega
        have k4 : (0 : Int) ≤ 2 * (i : Int) + 1 := by omega
        have k6 : (2 * (i : Int)).toNat = 2 * i := by omega
        have k7 : (2 * (i : Int) + 1).toNat = 2 * i + 1 := by omega
        have k8 : IntKind.i64.wrap (2 * (i : Int) + 1) = 2 * (i : Int) + 1 := IntWalk.i64_in _ (by omega)
        have k9 : IntKind.i64.wrap (2 * (i : Int) + 2) = 2 * (i : Int) + 2 := IntWalk.i64_in _ (by omega)
        have ra := dv_range a
        have rb := dv_range b
        clear ha hb htl htn
        have d1 := fun w => refdigit_any a w
        have d2 := fun w => refdigit_any b w
        by_cases hd : dv a < 0 ∨ dv b < 0
        · have hbad : unhexL T = none := unhex_bad i T (by have := HTL.out; omega) (by rw [← HA.out, ← HB.out]; exact pair_bad a b hd)
          have e1 : unS T = ⟨#[]⟩ := by unfold unS; rw [hbad]
          have e2 : unC T = 20 := by unfold unC; rw [hbad]
          have HE := Lib.hid (And.intro e1 e2)
          clear hbad e1 e2
          by_cases hda : dv a < 0
          · clear hd ra rb
            go_wp2_with (first
              | (go_at_call 19; first | (refine (d1 _).mono ?_; clear d1; rintro e w' ⟨rfl, qd, rfl⟩) | (refine (d2 _).mono ?_; rintro e w' ⟨rfl, qd2, rfl⟩))
              | fail)
            go_ret2
            exact ⟨by rw [HE.out.1, HE.out.2]; rfl, hF.trans (Fr.drewN _ _ _)⟩
          · have hdb : dv b < 0 := by omega
            clear hd ra rb
            go_wp2_with (first
              | (go_at_call 19; first | (refine (d1 _).mono ?_; clear d1; rintro e w' ⟨rfl, qd, rfl⟩) | (refine (d2 _).mono ?_; rintro e w' ⟨rfl, qd2, rfl⟩))
              | fail)
            go_ret2
            exact ⟨by rw [HE.out.1, HE.out.2]; rfl, hF.trans (Fr.drewN _ _ _)⟩
        · have hda : 0 ≤ dv a := by omega
          have hdb : 0 ≤ dv b := by omega
          have na : ¬ dv a < 0 := by omega
          have nb : ¬ dv b < 0 := by omega
          have x1 : IntKind.i64.wrap (16 * dv a) = 16 * dv a := IntWalk.i64_in _ (by omega)
          have x2 : IntKind.i64.wrap (16 * dv a + dv b) = 16 * dv a + dv b := IntWalk.i64_in _ (by omega)
          obtain ⟨z, hz⟩ : ∃ z, z = dy a <<< 4 ||| dy b := ⟨_, rfl⟩
          have x3 : IntKind.u8.wrap (16 * dv a + dv b) = bt z := by
            rw [hz, or16 _ _ (dy_lt a) (dy_lt b), dy_bt a hda, dy_bt b hdb]
            have l1 := dy_lt a
            have l2 := dy_lt b
            have m1 : (dy a).toNat < 16 := l1
            have m2 : (dy b).toNat < 16 := l2
            unfold bt
            rw [UInt8.toNat_ofNat_of_lt' (by show 16 * (dy a).toNat + (dy b).toNat < 256; omega)]
            have := u8_byte (UInt8.ofNat (16 * (dy a).toNat + (dy b).toNat))
            rw [UInt8.toNat_ofNat_of_lt' (by show 16 * (dy a).toNat + (dy b).toNat < 256; omega)] at this
            simpa using this
          have e : R.take (i + 1) = R.take i ++ [z] := by
            rw [List.take_add_one, List.getElem?_eq_getElem (by omega)]
            have : R[i]'(by omega) = z := by
              have h5 : R.getD i 0 = z := by
                rw [HR.out, hz, HA.out, HB.out]
                simp [unR, List.getD, hl]
              simpa [List.getD, show i < R.length by omega] using h5
            rw [this]; rfl
          have HTk := Lib.hid e
          clear hd hz ra rb e
          have A2 := At.alloc_new wr 5 #[Value.int .u8 (bt z)]
          have hsz := hF.size
          go_wp2_with (first
            | (go_at_call 19; first | (refine (d1 _).mono ?_; clear d1; rintro e w' ⟨rfl, qd, rfl⟩) | (refine (d2 _).mono ?_; rintro e w' ⟨rfl, qd2, rfl⟩))
            | (at_builtin; refine wpList_append_own _ rfl _ _ _ rfl w.heap.size 5 iI (.int .u8 0) 1 1 Try.underlying40 hiI hz0 hz1 hz2 rfl (by decide) _ i _ rfl (own_drewN (World.ownsRow.alloc h0 _) _) ⟨wr.heap.size, 0, none⟩ 1 1 (byteCells [z]) rfl rfl (by intro j u hj; rw [addr_add', Nat.zero_add]; exact (A2.cell j).trans hj) (byteCells_one _) (by simp [maxLen]; omega) (by omega) (by simp; omega) ?_; intro v2 w2 o2 gr2 _)
            | fail)
          refine ⟨⟨i + 1, by omega, by simp; omega, ?_, ?_, ?_⟩, by simp only [intOf]; omega⟩
          · intro k hk
            by_cases he : k = i
            · subst he
              rw [← HA.out, ← HB.out]
              exact ⟨hda, hdb⟩
            · exact HG.out k (by omega)
          · rw [HTk.out]
            simpa [byteCells] using o2
          · refine hF.new (S := u4.ownBlock.toList) (((Fr.alloc _ _ _).trans (Fr.drewN _ _ _)).trans (Fr.ofGrown gr2 (by intro k hk; rw [show u4.ownBlock = some k from hk]; simp))) (fun x hx => (h0.lt x (by simpa using hx)).1)
      · obtain rfl : i = n := by omega
        have k1 : ¬ (2 * (i : Int)) < t.size := by have := HN.out; omega
        have hun : unhexL T = some R := by rw [unhex_good T i HTL.out HG.out, HR.out]
        have HE := Lib.hid (show unS T = ⟨R.toArray⟩ ∧ unC T = 0 from ⟨by unfold unS; rw [hun], by unfold unC; rw [hun]⟩)
        clear hun
        rw [List.take_of_length_le (by omega)] at h0
        have hcv := run_strOwn Try.underlying40 Try.underlying5 Try.underlying9 h0
        go_wp2_with fail
        go_ret2
        exact ⟨by rw [HE.out.1, HE.out.2]; rfl, hF⟩
end Go.Proofs.Ytfoigonlbhecdaa
