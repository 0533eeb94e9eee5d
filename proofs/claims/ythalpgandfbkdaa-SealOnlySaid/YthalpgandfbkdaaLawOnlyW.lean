/- The law SealOnly walked. -/
import Derived.Test.YthalpgandfbkdaaIdlO
import Derived.Test.YthalpgandfbkdaaUntil
namespace Go.Proofs.Ythalpgandfbkdaa
open Go.RowKit Go.Lib Go.Joins Base Go.Maps
set_option linter.unusedVariables false
set_option linter.unusedSimpArgs false

theorem own_mono {w : World} {base base' size : Nat} {e : TypeId} {v : Value} {n : Nat} {xs : List Value} (h : w.ownsRow base e size v n xs) (hb : base' ≤ base) : w.ownsRow base' e size v n xs := by
  obtain ⟨hl, h | ⟨g, cap, cur, hv, hg, r⟩⟩ := h
  · exact ⟨hl, .inl h⟩
  · exact ⟨hl, .inr ⟨g, cap, cur, hv, by omega, r⟩⟩
theorem fr_trans_below {a b c : World} (h : Fr [] a b) (k : Below a.heap.size b c) : Fr [] a c := Fr.ofBelow (h.below.trans k)
/-- One try, in its place. -/
def TryAt (w : World) (gt o : Nat) (f : Fg) : Prop := w.cell? ⟨gt, o, none⟩ = some (.int .i64 f.which) ∧ w.cell? ⟨gt, o + 1, none⟩ = some (.int .i64 f.kind) ∧ w.cell? ⟨gt, o + 2, none⟩ = some (.int .i64 f.at_) ∧ w.cell? ⟨gt, o + 3, none⟩ = some (.int .i64 f.by_) ∧
  w.cell? ⟨gt, o + 4, none⟩ = some (.string f.name) ∧ w.cell? ⟨gt, o + 5, none⟩ = some (.string f.more) ∧ w.cell? ⟨gt, o + 6, none⟩ = some (.bool f.cut)
theorem TryAt.fr {w w' : World} {gt o : Nat} {f : Fg} (h : TryAt w gt o f) (k : Fr [] w w') : TryAt w' gt o f := by
  have hlt : gt < w.heap.size := by
    rcases Nat.lt_or_ge gt w.heap.size with h' | h'
    · exact h'
    · have := h.1
      simp [World.cell?, Array.getElem?_eq_none h'] at this
  have hc : ∀ j, w'.cell? ⟨gt, j, none⟩ = w.cell? ⟨gt, j, none⟩ := fun j => World.cell?_of_block (w := w) (k.block gt hlt (by simp))
  unfold TryAt
  rw [hc, hc, hc, hc, hc, hc, hc]
  exact h
/-- A kind, from any number. -/
def kap (n : Int) : Int := ((1 + modN n 3 : Nat) : Int)
theorem kap_range (n : Int) : 1 ≤ kap n ∧ kap n ≤ 3 := by
  have := modN_lt n 3 (by omega)
  unfold kap; omega
theorem kap_wrap (n : Int) : IntKind.i64.wrap (1 + ((modN n 3 : Nat) : Int)) = kap n := by
  have := modN_lt n 3 (by omega)
  unfold kap
  rw [IntWalk.i64_in _ (by omega)]; omega
theorem kap_wrap' (n : Int) : wrap64 (1 + ((modN n 3 : Nat) : Int)) = kap n := by
  have := modN_lt n 3 (by omega)
  unfold kap
  rw [IntWalk.wrap64_in _ (by omega)]; omega
theorem good_none : Good [] (fun _ => 0) := ⟨fun t => .inl rfl, fun j r h => by simp at h⟩
set_option maxRecDepth 100000 in
set_option maxHeartbeats 4000000 in
theorem only_law {w : World} (v : Value) (bs : List Bx) (hv : IsBoxes w v bs) (v2 : Value) (ts : List Fg) (hv2 : IsTries w v2 ts) (st : ByteArray) (hst : st.size ≤ 140737488351232) :
    Calls Try.prog 4 #[v, v2, .string st] w fun e w' => e = .returned (.bool true) ∧ Fr [] w w' := by
  have hbn : bs.length ≤ 2932031007402 := by have := hv.2.1; omega
  go_enter Try.func4, Try.ntmps4
  go_upto_region 4 with (first
    | (go_at_call 6; refine (new_any _).mono ?_; rintro e w1 ⟨p, b, rfl, hpb, hp, hb, A1, T1, f1⟩)
    | (go_at_call 7; refine (num8_any _ _).mono ?_; rintro e w2 ⟨rfl, rfl⟩)
    | fail)
  have hI1 : Idl w1 w.heap.size p b (.slice none 0 0) [] (fun _ => 0) := ⟨A1, ⟨rfl, .inl ⟨rfl, rfl⟩⟩, Tab.made T1⟩
  have c1 := first_any v bs w1 (hv.keep f1)
  obtain ⟨L, hL⟩ : ∃ L, L = LL (box0 :: bs) := ⟨_, rfl⟩
  have hLn : L.length = bs.length + 1 := by rw [hL, LL_len]; rfl
  have hLf : Fine L := by rw [hL]; exact LL_fine _
  have c2 := fun vB w' h1 h2 h3 => laid_any w.heap.size p b vB (box0 :: bs) (by simp; omega) (fun _ => 0) good_none w' h1 ⟨hp, hb⟩ h2 h3
  rw [← hL] at c2
  have HT := Lib.hid hv2
  have HP := Lib.hid (And.intro hp (And.intro hb hpb))
  have HL := Lib.hid (And.intro hLn hLf)
  have hs1 := f1.size
  clear hL hv A1 T1 hv2 hp hb hpb hLn hLf
  go_upto_region 5 with (first
    | (go_at_call 14; refine c1.mono ?_; clear c1; rintro e w2 ⟨vB, rfl, oB, f2⟩)
    | (go_at_call 13; refine (c2 vB _ (Nat.le_trans hs1 f2.size) (hI1.fr f2 (by simp) (by simp) (by simp)) (own_mono oB hs1)).mono ?_; clear c2; rintro e w3 ⟨vL, vr, F, rfl, oL, hI, hG, hBl⟩)
    | fail)
  have F3 : Fr [] w w3 := fr_trans_below (f1.trans f2) hBl
  clear hI1 f1 f2 oB hs1
  go_upto_region 8 with fail
  have rel0 : ∃ i : Nat, i ≤ ts.length ∧ Value.int .i64 0 = .int .i64 i ∧ Idl w3 w.heap.size p b vr (L.map rowOf) F ∧ w3.ownsRow w.heap.size 46 5 vL L.length (L.flatMap laC) ∧ Fr [] w w3 := ⟨0, by omega, rfl, hI, by have := HL.out.1; rw [this]; exact oL, F3⟩
  clear hI oL hBl
  obtain ⟨aL, cL, rfl, haL⟩ : ∃ ao c, vL = .slice ao L.length c ∧ (0 < L.length → ∃ g, ao = some ⟨g, 0, none⟩) := by
    obtain ⟨i, _, _, _, h, _⟩ := rel0
    exact own_slice h
  obtain ⟨g, rfl⟩ := haL (by have := HL.out.1; omega)
  clear haL
  obtain ⟨a2, c22, rfl⟩ : ∃ ao c, v2 = .slice ao ts.length c := by
    obtain ⟨⟨rfl, rfl⟩ | ⟨ad, cap, rfl, _⟩, _⟩ := HT.out
    · exact ⟨none, 0, rfl⟩
    · exact ⟨some ad, cap, rfl⟩
  go_loopw [11] (fun v11 wr => ∃ i : Nat, i ≤ ts.length ∧ v11 = .int .i64 i ∧ Idl wr w.heap.size p b vr (L.map rowOf) F ∧ wr.ownsRow w.heap.size 46 5 (.slice (some ⟨g, 0, none⟩) L.length cL) L.length (L.flatMap laC) ∧ Fr [] w wr) (fun v _ => ts.length - (RowKit.intOf v).toNat)
  case atStart => exact rel0
  case round =>
    clear rel0 F3
    obtain ⟨i, hi, rfl, hI, oL, hF⟩ := hrel
    by_cases hl : i < ts.length
    · have l1 : (i : Int) < ts.length := by omega
      obtain ⟨f, hf⟩ : ∃ f, ts[i]? = some f := ⟨_, List.getElem?_eq_getElem hl⟩
      obtain ⟨gt, off, cap', e1, q0, q1, q2, q3, q4, q5, q6⟩ := (HT.out.keep hF).at i f hf
      injection e1 with e1 _ e2
      subst e1 e2
      have q0 : wr.cell? ⟨gt, off + i * 7, none⟩ = some (.int .i64 f.which) := q0
      have q1 : wr.cell? ⟨gt, off + i * 7 + 1, none⟩ = some (.int .i64 f.kind) := by rw [Nat.add_assoc]; exact q1
      have q2 : wr.cell? ⟨gt, off + i * 7 + 2, none⟩ = some (.int .i64 f.at_) := by rw [Nat.add_assoc]; exact q2
      have q3 : wr.cell? ⟨gt, off + i * 7 + 3, none⟩ = some (.int .i64 f.by_) := by rw [Nat.add_assoc]; exact q3
      have q4 : wr.cell? ⟨gt, off + i * 7 + 4, none⟩ = some (.string f.name) := by rw [Nat.add_assoc]; exact q4
      have q5 : wr.cell? ⟨gt, off + i * 7 + 5, none⟩ = some (.string f.more) := by rw [Nat.add_assoc]; exact q5
      have q6 : wr.cell? ⟨gt, off + i * 7 + 6, none⟩ = some (.bool f.cut) := by rw [Nat.add_assoc]; exact q6
      have hfs := HT.out.2.2 f (List.mem_iff_getElem?.2 ⟨i, hf⟩)
      obtain ⟨hLn, hLf⟩ := HL.out
      have hj := modN_lt f.which L.length (by omega)
      have cM := fun w => modI_any f.which L.length (by omega) w
      obtain ⟨j, hjj⟩ : ∃ j, j = modN f.which L.length := ⟨_, rfl⟩
      rw [← hjj] at hj cM
      obtain ⟨x, hx⟩ : ∃ x, L[j]? = some x := ⟨_, List.getElem?_eq_getElem hj⟩
      obtain ⟨d0, d1, d2, d3, d4⟩ := la_cells oL rfl j x hx
      have hxf := hLf x (List.mem_iff_getElem?.2 ⟨j, hx⟩)
      have l2 : (j : Int) < L.length := by omega
      have HX := Lib.hid (And.intro hxf (And.intro hfs (And.intro hLn hLf)))
      clear hjj hLn hLf hx hxf hfs hf hl hj
      go_upto_region 11 with (first
        | (go_at_call 8; refine (cM _).mono ?_; clear cM; rintro e w4 ⟨rfl, rfl⟩)
        | fail)
      have TA : TryAt wr gt (off + i * 7) f := ⟨q0, q1, q2, q3, q4, q5, q6⟩
      clear q0 q1 q2 q3 q4 q5 q6 d0 d1 d2 d3 d4
      obtain ⟨t12, ht12⟩ : ∃ t, t = wr.heap.size := ⟨_, rfl⟩
      have A0 := At.alloc_new wr 46 #[.int .i64 x.1.k, .string x.1.name, .string x.1.text, .int .i64 x.1.seed, .string x.2]
      have fA := Fr.alloc [] wr (.cells #[.int .i64 x.1.k, .string x.1.name, .string x.1.text, .int .i64 x.1.seed, .string x.2] 46)
      rw [← ht12] at A0 ⊢
      have I1 := hI.fr fA (by simp) (by simp) (by simp)
      have L1 := own_fr oL fA (by simp)
      have T1 := TA.fr fA
      have F1 := hF.trans fA
      generalize wr.alloc (.cells #[.int .i64 x.1.k, .string x.1.name, .string x.1.text, .int .i64 x.1.seed, .string x.2] 46) = W at A0 I1 L1 T1 F1 ⊢
      clear fA ht12 hI oL TA hF
      obtain ⟨G, hGd⟩ : ∃ G : World → Prop, G = Fr [] W := ⟨_, rfl⟩
      have gW : ∀ w', G w' ↔ Fr [] W w' := fun w' => by rw [hGd]
      clear hGd
      have g2 : ∀ y : Gw G, Fr [] W y.w := fun y => (gW _).1 y.ok
      have a0 : ∀ y : Gw G, y.w.cell? ⟨t12, 0, none⟩ = some (.int .i64 x.1.k) := fun y => ((g2 y).keep A0 (by simp)).cell 0
      have a1 : ∀ y : Gw G, y.w.cell? ⟨gt, off + i * 7 + 1, none⟩ = some (.int .i64 f.kind) := fun y => (T1.fr (g2 y)).2.1
      have c3 := fun (m : Int) (w : World) => (modI_any m 3 (by omega) w).mono (R' := fun e w' => e = .returned (.int .i64 ((modN m 3 : Nat) : Int)) ∧ Fr [] w w') (fun e w' ⟨h1, h2⟩ => ⟨h1, h2 ▸ Fr.refl _ _⟩)
      rw [show ((3 : Nat) : Int) = 3 from rfl] at c3
      have kw := kap_wrap
      have kw' := kap_wrap'
      have g1 : ∀ (y : Gw G) w', Fr [] y.w w' → G w' := fun y w' f => (gW _).2 ((g2 y).trans f)
      have g0 : G W.drew := (gW _).2 (Fr.drew _ _)
      have ne : Nonempty (Gw G) := ⟨⟨_, g0⟩⟩
      refine wp_region_gw G (by kernel_rfl) (by kernel_rfl) g0 ?_
      repeat (go_big_quiet_step (first
        | (go_at_call 8; exact gw_call (c3 _ _) (g1 _))))
      refine wpQuiet_nil ?_
      rintro _ ⟨y, rfl⟩
      have fy := g2 y
      have A2 := fy.keep A0 (by simp)
      have I2 := I1.fr fy (by simp) (by simp) (by simp)
      have L2 := own_fr L1 fy (by simp)
      have T2 := T1.fr fy
      have F2 := F1.trans fy
      generalize y.w = W2 at A2 I2 L2 T2 F2 ⊢
      clear a0 a1 c3 kw kw' g1 g0 ne gW g2 A0 I1 L1 T1 F1 fy
      have hkk := kap_range (wrap64 (wrap64 (x.1.k - 1) + f.kind))
      generalize kap (wrap64 (wrap64 (x.1.k - 1) + f.kind)) = kk at hkk ⊢
      have HK := Lib.hid hkk
      clear hkk
      obtain ⟨bU, hbU⟩ : ∃ bU : Bool, bU = !decide (f.name = ⟨#[]⟩ ∨ 64 < f.name.size) := ⟨_, rfl⟩
      obtain ⟨nm, hnm⟩ : ∃ nm : ByteArray, nm = if bU = true then f.name else x.1.name := ⟨_, rfl⟩
      have hnms : nm.size ≤ 64 := by
        rw [hnm]
        split
        · next h =>
          rw [hbU] at h
          simp at h
          omega
        · exact HX.out.1.2.1
      have d1 := A2.cell 1
      have e4 := T2.2.2.2.2.1
      have HM := Lib.hid hnms
      have HN := Lib.hid hnm
      clear hnm hnms
      go_upto_region 13 with fail
      go_cut [84] from 38 to 157 (fun v84 wx => W2 = wx ∧ v84 = Value.bool bU)
      case first =>
        clear HN
        by_cases h1 : f.name = ⟨#[]⟩
        · have hs : bU = false := by rw [hbU]; simp [h1]
          rw [h1] at e4
          clear hbU h1
          go_wp2_with fail
          go_meet
          case rel => exact ⟨rfl, by first | (rw [hs]; done) | rfl⟩
        · have hb : (f.name.toList == []) = false := by
            have e := str_neq h1
            rw [show (⟨#[]⟩ : ByteArray).toList = [] by rw [ByteArray.toList_eq]] at e
            exact e
          by_cases h2 : 64 < f.name.size
          · have hs : bU = false := by rw [hbU]; simp [h2]
            have l3 : ¬ (f.name.size : Int) ≤ 64 := by omega
            clear hbU h1 h2
            go_wp2_with fail
            go_meet
            case rel => exact ⟨rfl, by first | (rw [hs]; done) | rfl⟩
          · have hs : bU = true := by rw [hbU]; simp [h1]; omega
            have l3 : (f.name.size : Int) ≤ 64 := by omega
            clear hbU h1 h2
            go_wp2_with fail
            go_meet
            case rel => exact ⟨rfl, by first | (rw [hs]; done) | rfl⟩
      case rest =>
        obtain ⟨rfl, rfl⟩ := hcut
        clear hbU
        go_upto_if 84 with fail
        go_cut [14] from 38 to 157 (fun v14 wx => W2 = wx ∧ v14 = Value.string nm)
        case first =>
          cases bU with
          | true =>
            go_wp2_with fail
            go_meet
            case rel => exact ⟨rfl, by rw [HN.out]; simp⟩
          | false =>
            go_wp2_with fail
            go_meet
            case rel => exact ⟨rfl, by rw [HN.out]; simp⟩
        obtain ⟨rfl, rfl⟩ := hcut
        clear d1 e4 HN
        have hxb := HX.out.1.2.2
        have c4 := fun (w : World) => (modI_any f.at_ x.2.size (by omega) w).mono (R' := fun e w' => e = .returned (.int .i64 ((modN f.at_ x.2.size : Nat) : Int)) ∧ Fr [] w w') (fun e w' ⟨h1, h2⟩ => ⟨h1, h2 ▸ Fr.refl _ _⟩)
        have hk := modN_lt f.at_ x.2.size (by omega)
        generalize modN f.at_ x.2.size = k at c4 hk
        obtain ⟨G, hGd⟩ : ∃ G : World → Prop, G = Fr [] W2 := ⟨_, rfl⟩
        have gW : ∀ w', G w' ↔ Fr [] W2 w' := fun w' => by rw [hGd]
        clear hGd
        have g2 : ∀ y : Gw G, Fr [] W2 y.w := fun y => (gW _).1 y.ok
        have a0 : ∀ y : Gw G, y.w.cell? ⟨t12, 4, none⟩ = some (.string x.2) := fun y => ((g2 y).keep A2 (by simp)).cell 4
        have a1 : ∀ y : Gw G, y.w.cell? ⟨gt, off + i * 7 + 2, none⟩ = some (.int .i64 f.at_) := fun y => (T2.fr (g2 y)).2.2.1
        have g1 : ∀ (y : Gw G) w', Fr [] y.w w' → G w' := fun y w' f => (gW _).2 ((g2 y).trans f)
        have g0 : G W2.drew := (gW _).2 (Fr.drew _ _)
        have ne : Nonempty (Gw G) := ⟨⟨_, g0⟩⟩
        clear hxb
        go_upto_region 15 with fail
        refine wp_region_gw G (by kernel_rfl) (by kernel_rfl) g0 ?_
        repeat (go_big_quiet_step (first
          | (go_at_call 8; exact gw_call (c4 _) (g1 _))))
        refine wpQuiet_nil ?_
        rintro _ ⟨y, rfl⟩
        have fy := g2 y
        have A3 := fy.keep A2 (by simp)
        have I3 := I2.fr fy (by simp) (by simp) (by simp)
        have L3 := own_fr L2 fy (by simp)
        have T3 := T2.fr fy
        have F3 := F2.trans fy
        generalize y.w = W3 at A3 I3 L3 T3 F3 ⊢
        clear a0 a1 c4 g1 g0 ne gW g2 A2 I2 L2 T2 F2 fy
        go_upto_region 16 with fail
        have c5 := fun w => modI_any f.by_ 256 (by omega) w
        rw [show ((256 : Nat) : Int) = 256 from rfl] at c5
        have hm := modN_lt f.by_ 256 (by omega)
        generalize modN f.by_ 256 = m at c5 hm
        obtain ⟨xb, hxb⟩ : ∃ xb, xb = x.2 := ⟨_, rfl⟩
        rw [← hxb] at hk A3
        obtain ⟨z, hz⟩ : ∃ z, z = xb[k]'hk := ⟨_, rfl⟩
        have gz := hz.symm
        have wm : IntKind.u8.wrap (m : Int) = bt (UInt8.ofNat m) := by rw [wrap8_nat _ hm]; unfold bt; simp; omega
        have xz : ∀ t, binOp .xor t (.int .u8 (z.toNat : Int)) (.int .u8 (bt (UInt8.ofNat m))) = pure (.int .u8 (bt (z ^^^ UInt8.ofNat m))) := fun t => binOp_xor8 t z (UInt8.ofNat m)
        generalize UInt8.ofNat m = mb at wm xz
        have l8 : (k : Int) < xb.size := by omega
        have l9 : (k : Int) ≤ xb.size := by omega
        obtain ⟨k1, hk1⟩ : ∃ k1, k1 = k + 1 := ⟨_, rfl⟩
        have w8 : IntKind.i64.wrap ((k : Int) + 1) = (k1 : Int) := by rw [IntWalk.i64_in _ (by have := HX.out.1.2.2; rw [← hxb] at this; omega)]; omega
        have l10 : (k1 : Int) ≤ xb.size := by omega
        have HK1 := Lib.hid (And.intro hk1 hk)
        clear hk1
        have HB := Lib.hid hxb
        clear hz hxb hm
        refine wp_region_until (fun w' => (w'.cell? ⟨t12, 4, none⟩ = some (.string xb) ∧ w'.cell? ⟨gt, off + i * 7 + 3, none⟩ = some (.int .i64 f.by_)) ∧ Fr [] W3 w') (fun _ => True) 1000 (by rfl) ?_
        have g0 : ∀ w', Fr [] W3 w' → (w'.cell? ⟨t12, 4, none⟩ = some (.string xb) ∧ w'.cell? ⟨gt, off + i * 7 + 3, none⟩ = some (.int .i64 f.by_)) ∧ Fr [] W3 w' := fun w' f => ⟨⟨(f.keep A3 (by simp)).cell 4, (T3.fr f).2.2.2.1⟩, f⟩
        have s0 := g0 _ (Fr.drew [] W3)
        have s1 : True := trivial
        refine until_s0 0 (v := ?_) rfl (by kernel_rfl) (fun _ _ _ h => h) (Or.inl ⟨by rfl, ?_⟩) (by assumption) (fun h => by first | assumption | exact absurd (h : true = false) (by decide)) ?_
        rotate_left
        · intro w hSw; (try dsimp only at hSw); (try go_simp); (try with_reducible rfl)
        try simp only [Act.put, List.setIfInBounds_toArray, List.set_cons_zero, List.set_cons_succ]
        refine until_s0 1 (v := ?_) rfl (by kernel_rfl) (fun _ _ _ h => h) (Or.inl ⟨by rfl, ?_⟩) (by assumption) (fun h => by first | assumption | exact absurd (h : true = false) (by decide)) ?_
        rotate_left
        · intro w hSw; (try dsimp only at hSw); (try go_simp); (try with_reducible rfl)
        try simp only [Act.put, List.setIfInBounds_toArray, List.set_cons_zero, List.set_cons_succ]
        refine until_s0 2 (v := ?_) rfl (by kernel_rfl) (fun _ _ _ h => h) (Or.inl ⟨by rfl, ?_⟩) (by assumption) (fun h => by first | assumption | exact absurd (h : true = false) (by decide)) ?_
        rotate_left
        · intro w hSw; (try dsimp only at hSw); (try go_simp); (try with_reducible rfl)
        try simp only [Act.put, List.setIfInBounds_toArray, List.set_cons_zero, List.set_cons_succ]
        refine until_s0 3 (v := ?_) rfl (by kernel_rfl) (fun _ _ _ h => h) (Or.inl ⟨by rfl, ?_⟩) (by assumption) (fun h => by first | assumption | exact absurd (h : true = false) (by decide)) ?_
        rotate_left
        · intro w hSw; (try dsimp only at hSw); (try go_simp); (try with_reducible rfl)
        try simp only [Act.put, List.setIfInBounds_toArray, List.set_cons_zero, List.set_cons_succ]
        refine until_s0 4 (v := ?_) rfl (by kernel_rfl) (fun _ _ _ h => h) (Or.inl ⟨by rfl, ?_⟩) (by assumption) (fun h => by first | assumption | exact absurd (h : true = false) (by decide)) ?_
        rotate_left
        · intro w hSw; (try dsimp only at hSw); (try go_simp); (try with_reducible rfl)
        try simp only [Act.put, List.setIfInBounds_toArray, List.set_cons_zero, List.set_cons_succ]
        refine until_s0 5 (v := ?_) rfl (by kernel_rfl) (fun _ _ _ h => h) (Or.inl ⟨by rfl, ?_⟩) (by assumption) (fun h => by first | assumption | exact absurd (h : true = false) (by decide)) ?_
        rotate_left
        · intro w hSw; (try dsimp only at hSw); (try go_simp); (try with_reducible rfl)
        try simp only [Act.put, List.setIfInBounds_toArray, List.set_cons_zero, List.set_cons_succ]
        refine until_s0 6 (v := ?_) rfl (by kernel_rfl) (fun _ _ _ h => h) (Or.inl ⟨by rfl, ?_⟩) (by assumption) (fun h => by first | assumption | exact absurd (h : true = false) (by decide)) ?_
        rotate_left
        · intro w hSw; (try dsimp only at hSw); (try go_simp); (try with_reducible rfl)
        try simp only [Act.put, List.setIfInBounds_toArray, List.set_cons_zero, List.set_cons_succ]
        refine until_s0 7 (v := ?_) rfl (by kernel_rfl) (fun _ _ _ h => h) (Or.inl ⟨by rfl, ?_⟩) (by assumption) (fun h => by first | assumption | exact absurd (h : true = false) (by decide)) ?_
        rotate_left
        · intro w hSw; (try dsimp only at hSw); (try go_simp); (try with_reducible rfl)
        try simp only [Act.put, List.setIfInBounds_toArray, List.set_cons_zero, List.set_cons_succ]
        refine until_s0 8 (v := ?_) rfl (by kernel_rfl) (fun _ _ _ h => h) (Or.inl ⟨by rfl, ?_⟩) (by assumption) (fun h => by first | assumption | exact absurd (h : true = false) (by decide)) ?_
        rotate_left
        · intro w hSw; (try dsimp only at hSw); (try go_simp); (try with_reducible rfl)
        try simp only [Act.put, List.setIfInBounds_toArray, List.set_cons_zero, List.set_cons_succ]
        refine until_s0 9 (v := ?_) rfl (by kernel_rfl) (fun _ _ _ h => h) (Or.inl ⟨by rfl, ?_⟩) (by assumption) (fun h => by first | assumption | exact absurd (h : true = false) (by decide)) ?_
        rotate_left
        · intro w hSw; (try dsimp only at hSw); (try go_simp); (try with_reducible rfl)
        try simp only [Act.put, List.setIfInBounds_toArray, List.set_cons_zero, List.set_cons_succ]
        refine until_s0 10 (v := ?_) rfl (by kernel_rfl) (fun _ _ _ h => h) (Or.inl ⟨by rfl, ?_⟩) (by assumption) (fun h => by first | assumption | exact absurd (h : true = false) (by decide)) ?_
        rotate_left
        · intro w hSw; (try dsimp only at hSw); (try go_simp); (try with_reducible rfl)
        try simp only [Act.put, List.setIfInBounds_toArray, List.set_cons_zero, List.set_cons_succ]
        refine until_s0 11 (v := ?_) rfl (by kernel_rfl) (fun _ _ _ h => h) (Or.inl ⟨by rfl, ?_⟩) (by assumption) (fun h => by first | assumption | exact absurd (h : true = false) (by decide)) ?_
        rotate_left
        · intro w hSw; (try dsimp only at hSw); (try go_simp); (try with_reducible rfl)
        try simp only [Act.put, List.setIfInBounds_toArray, List.set_cons_zero, List.set_cons_succ]
        refine until_s0 12 (v := ?_) rfl (by kernel_rfl) (fun _ _ _ h => h) (Or.inl ⟨by rfl, ?_⟩) (by assumption) (fun h => by first | assumption | exact absurd (h : true = false) (by decide)) ?_
        rotate_left
        · intro w hSw; (try dsimp only at hSw); (try go_simp); (try with_reducible rfl)
        try simp only [Act.put, List.setIfInBounds_toArray, List.set_cons_zero, List.set_cons_succ]
        refine until_s0 19 (v := ?_) rfl (by kernel_rfl) (fun _ _ _ h => h) (Or.inl ⟨by rfl, ?_⟩) (by assumption) (fun h => by first | assumption | exact absurd (h : true = false) (by decide)) ?_
        rotate_left
        · intro w hSw; (try dsimp only at hSw); (try go_simp); (try with_reducible rfl)
        try simp only [Act.put, List.setIfInBounds_toArray, List.set_cons_zero, List.set_cons_succ]
        refine until_s0 20 (v := ?_) rfl (by kernel_rfl) (fun _ _ _ h => h) (Or.inl ⟨by rfl, ?_⟩) (by assumption) (fun h => by first | assumption | exact absurd (h : true = false) (by decide)) ?_
        rotate_left
        · intro w hSw; (try dsimp only at hSw); (try go_simp); (try with_reducible rfl)
        try simp only [Act.put, List.setIfInBounds_toArray, List.set_cons_zero, List.set_cons_succ]
        refine until_s0 21 (v := ?_) rfl (by kernel_rfl) (fun _ _ _ h => h) (Or.inl ⟨by rfl, ?_⟩) (by assumption) (fun h => by first | assumption | exact absurd (h : true = false) (by decide)) ?_
        rotate_left
        · intro w hSw; (try dsimp only at hSw); (try go_simp); (try with_reducible rfl)
        try simp only [Act.put, List.setIfInBounds_toArray, List.set_cons_zero, List.set_cons_succ]
        refine until_s0 22 (v := ?_) rfl (by kernel_rfl) (fun _ _ _ h => h) (Or.inl ⟨by rfl, ?_⟩) (by assumption) (fun h => by first | assumption | exact absurd (h : true = false) (by decide)) ?_
        rotate_left
        · intro w hSw; (try dsimp only at hSw); (try go_simp); (try with_reducible rfl)
        try simp only [Act.put, List.setIfInBounds_toArray, List.set_cons_zero, List.set_cons_succ]
        refine until_s0 23 (v := ?_) rfl (by kernel_rfl) (fun _ _ _ h => h) (Or.inl ⟨by rfl, ?_⟩) (by assumption) (fun h => by first | assumption | exact absurd (h : true = false) (by decide)) ?_
        rotate_left
        · intro w hSw; (try dsimp only at hSw); (try go_simp); (try with_reducible rfl)
        try simp only [Act.put, List.setIfInBounds_toArray, List.set_cons_zero, List.set_cons_succ]
        have F4 := F3.trans (Fr.drew [] W3)
        have I4 := I3.fr (Fr.drew [] W3) (by simp) (by simp) (by simp)
        have L4 := own_fr L3 (Fr.drew [] W3) (by simp)
        refine until_sole 13 rfl (by kernel_rfl) (by rfl) ?_
        intro K' hK
        go_simp
        go_at_call 8
        refine (c5 _).mono ?_
        clear c5
        rintro _ w5 ⟨rfl, rfl⟩
        go_wp2_with fail
        refine hK _ _ s0 (fun _ => trivial) ?_
        clear hK
        refine until_s0 14 (v := ?_) rfl (by kernel_rfl) (fun _ _ _ h => h) (Or.inl ⟨by rfl, ?_⟩) (by assumption) (fun h => by first | assumption | exact absurd (h : true = false) (by decide)) ?_
        rotate_left
        · intro w hSw; (try dsimp only at hSw); (try go_simp); (try with_reducible rfl)
        try simp only [Act.put, List.setIfInBounds_toArray, List.set_cons_zero, List.set_cons_succ]
        refine until_s0 15 (v := ?_) rfl (by kernel_rfl) (fun _ _ _ h => h) (Or.inl ⟨by rfl, ?_⟩) (by assumption) (fun h => by first | assumption | exact absurd (h : true = false) (by decide)) ?_
        rotate_left
        · intro w hSw; (try dsimp only at hSw); (try go_simp); (try with_reducible rfl)
        try simp only [Act.put, List.setIfInBounds_toArray, List.set_cons_zero, List.set_cons_succ]
        obtain ⟨xs, hxs⟩ : ∃ xs : ByteArray, xs = ⟨#[z ^^^ mb]⟩ := ⟨_, rfl⟩
        have hcv : ∀ w' g, At w' g 5 [.int .u8 (bt (z ^^^ mb))] → (convert 28 9 (.slice (some ⟨g, 0, none⟩) 1 1)).run Try.prog w' = .ok (.string xs) w' := fun w' g h => by
          rw [hxs]; exact run_strB (P := Try.prog) (d := 9) Try.underlying28 Try.underlying5 Try.underlying9 w' g 0 1 5 [z ^^^ mb] [] [] h rfl 1 rfl
        obtain ⟨P1, hP1⟩ : ∃ t, t = xb.extract 0 k := ⟨_, rfl⟩
        obtain ⟨P2, hP2⟩ : ∃ t, t = xb.extract k1 xb.size := ⟨_, rfl⟩
        have p1 : xb.extract 0 k = P1 := hP1.symm
        have p2 : xb.extract k1 xb.size = P2 := hP2.symm
        have z1 : P1.size = k := by rw [hP1, ByteArray.size_extract]; omega
        obtain ⟨hk1, hk⟩ := HK1.out
        have z2 : P2.size = xb.size - (k + 1) := by rw [hP2, ByteArray.size_extract]; omega
        have zx : xs.size = 1 := by rw [hxs]; rfl
        have zb := HX.out.1.2.2
        rw [← HB.out] at zb
        obtain ⟨B1, hB1⟩ : ∃ B, B = P1 ++ xs := ⟨_, rfl⟩
        obtain ⟨B, hB⟩ : ∃ B, B = B1 ++ P2 := ⟨_, rfl⟩
        have zB1 : B1.size = k + 1 := by rw [hB1, ByteArray.size_append]; omega
        have zB : B.size = xb.size := by rw [hB, ByteArray.size_append]; omega
        have k4 : ¬ 9223372036854775807 < P1.size + xs.size := by omega
        have k5 : ¬ 9223372036854775807 < B1.size + P2.size := by omega
        have b1 := hB1.symm
        have b2 := hB.symm
        have zBB : 40 ≤ B.size ∧ B.size ≤ 1048576 := by omega
        have HZ := Lib.hid zBB
        try rw [p1]
        try rw [p2]
        clear hk1 hP1 hP2 z1 z2 zx zb hB1 hB zB1 zB zBB hxs gz p1 p2 wm xz
        generalize W3.drew = W4 at F4 I4 L4 s0 ⊢
        refine until_sole 16 rfl (by kernel_rfl) (by rfl) ?_
        intro K' hK
        go_simp
        have N5 := At.alloc_new W4 5 #[Value.int .u8 (bt (z ^^^ mb))]
        have fN := Fr.alloc [] W4 (.cells #[Value.int .u8 (bt (z ^^^ mb))] 5)
        have hcv1 := hcv _ _ N5
        have s5 : (_ ∧ _) ∧ Fr [] W3 (W4.alloc (.cells #[Value.int .u8 (bt (z ^^^ mb))] 5)) := g0 _ (s0.2.trans fN)
        refine hK _ _ s5 (fun _ => trivial) ?_
        clear hK
        refine until_sole 17 rfl (by kernel_rfl) (by rfl) ?_
        intro K' hK
        go_simp
        refine hK _ _ s5 (fun _ => trivial) ?_
        clear hK hcv1 hcv
        have F5 := F4.trans fN
        have I5 := I4.fr fN (by simp) (by simp) (by simp)
        have L5 := own_fr L4 fN (by simp)
        have T5 := T3.fr s5.2
        clear s0 N5 fN F4 I4 L4 A3 I3 L3 T3 F3
        generalize W4.alloc (.cells #[Value.int .u8 (bt (z ^^^ mb))] 5) = W5 at F5 I5 L5 T5 s5 ⊢
        refine until_s0 18 (v := ?_) rfl (by kernel_rfl) (fun _ _ _ h => h) (Or.inl ⟨by rfl, ?_⟩) (by assumption) (fun h => by first | assumption | exact absurd (h : true = false) (by decide)) ?_
        rotate_left
        · intro w hSw; (try dsimp only at hSw); (try go_simp); (try with_reducible rfl)
        try simp only [Act.put, List.setIfInBounds_toArray, List.set_cons_zero, List.set_cons_succ]
        refine until_s0 24 (v := ?_) rfl (by kernel_rfl) (fun _ _ _ h => h) (Or.inl ⟨by rfl, ?_⟩) (by assumption) (fun h => by first | assumption | exact absurd (h : true = false) (by decide)) ?_
        rotate_left
        · intro w hSw; (try dsimp only at hSw); (try go_simp); (try with_reducible rfl)
        try simp only [Act.put, List.setIfInBounds_toArray, List.set_cons_zero, List.set_cons_succ]
        refine until_s0 25 (v := ?_) rfl (by kernel_rfl) (fun _ _ _ h => h) (Or.inl ⟨by rfl, ?_⟩) (by assumption) (fun h => by first | assumption | exact absurd (h : true = false) (by decide)) ?_
        rotate_left
        · intro w hSw; (try dsimp only at hSw); (try go_simp); (try with_reducible rfl)
        try simp only [Act.put, List.setIfInBounds_toArray, List.set_cons_zero, List.set_cons_succ]
        refine until_done (by kernel_rfl) ?_ _
        clear k4 k5 b1 b2 s5 g0
        have e6 := T5.2.2.2.2.2.2
        go_upto_if 128 with fail
        obtain ⟨fc, hfc⟩ : ∃ c, c = f.cut := ⟨_, rfl⟩
        rw [← hfc]
        obtain ⟨B2, hB2⟩ : ∃ B2 : ByteArray, B2 = if fc = true then B.extract 0 (B.size - 1) else B := ⟨_, rfl⟩
        have zB2 : B2.size ≤ 1048576 := by
          rw [hB2]
          split
          · rw [ByteArray.size_extract]; have := HZ.out; omega
          · exact HZ.out.2
        obtain ⟨zk, hzk⟩ : ∃ zk, zk = B.size - 1 := ⟨_, rfl⟩
        have wz : IntKind.i64.wrap ((B.size : Int) - 1) = (zk : Int) := by rw [IntWalk.i64_in _ (by have := HZ.out; omega)]; have := HZ.out; omega
        have lz : (zk : Int) ≤ B.size := by omega
        rw [← hzk] at hB2
        have HB2 := Lib.hid hB2
        have e5 := T5.2.2.2.2.2.1
        clear hfc hzk hB2 e6
        go_cut [16] from 38 to 157 (fun v16 wx => W5 = wx ∧ v16 = Value.string B2)
        case first =>
          cases fc with
          | true =>
            go_wp2_with fail
            go_meet
            case rel => exact ⟨rfl, by rw [HB2.out]; simp⟩
          | false =>
            go_wp2_with fail
            go_meet
            case rel => exact ⟨rfl, by rw [HB2.out]; simp⟩
        obtain ⟨rfl, rfl⟩ := hcut
        clear wz lz HB2
        have hfm := HX.out.2.1.2
        have k6 : ¬ 9223372036854775807 < B2.size + f.more.size := by omega
        have hLn : L.length ≤ 4398046511104 := by have := HX.out.2.2.1; omega
        have c6 := fun w' h1 h2 => opened_any w.heap.size p b (.slice (some ⟨g, 0, none⟩) L.length cL) vr L hLn F hG kk HK.out nm (B2 ++ f.more) HM.out (by rw [ByteArray.size_append]; omega) w' h1 h2
        have c7 := fun w' h1 h2 => opened_any w.heap.size p b (.slice (some ⟨g, 0, none⟩) L.length cL) vr L hLn F hG kk HK.out nm st HM.out (by omega) w' h1 h2
        have w9 : IntKind.i64.wrap ((i : Int) + 1) = ((i + 1 : Nat) : Int) := by rw [IntWalk.i64_in _ (by have := HT.out.2.1; omega)]; omega
        have HLn := Lib.hid hLn
        clear hfm hLn zB2
        go_wp2_with (first
          | (go_at_call 15; refine (c6 _ I5 L5).mono ?_; clear c6; rintro e w6 ⟨rfl, f6⟩; have I6 := I5.fr f6 (by simp) (by simp) (by simp); have L6 := own_fr L5 f6 (by simp); have F6 := F5.trans f6)
          | (go_at_call 15; refine (c7 _ I6 L6).mono ?_; clear c7; rintro e w7 ⟨rfl, f7⟩; have I7 := I6.fr f7 (by simp) (by simp) (by simp); have L7 := own_fr L6 f7 (by simp); have F7 := F6.trans f7)
          | fail)
        exact ⟨⟨i + 1, by omega, by simp, I7, L7, F7⟩, by simp only [RowKit.intOf]; omega⟩
    · obtain rfl : i = ts.length := by omega
      have l1 : ¬ (ts.length : Int) < ts.length := by omega
      have hLn : L.length ≤ 4398046511104 := by have := HL.out.1; omega
      have c8 := fun w' h1 h2 => back_any w.heap.size p b (.slice (some ⟨g, 0, none⟩) L.length cL) vr L hLn F hG HL.out.2 w' h1 h2
      have c9 := fun w' h1 h2 => opened_any w.heap.size p b (.slice (some ⟨g, 0, none⟩) L.length cL) vr L hLn F hG 1 (by omega) ⟨#[110, 111, 98, 111, 100, 121]⟩ ⟨#[]⟩ (by decide) (by decide) w' h1 h2
      have HLn := Lib.hid hLn
      clear hLn
      go_wp2_with (first
        | (go_at_call 16; refine (c8 _ hI oL).mono ?_; clear c8; rintro e w6 ⟨rfl, f6⟩; have I6 := hI.fr f6 (by simp) (by simp) (by simp); have L6 := own_fr oL f6 (by simp); have F6 := hF.trans f6)
        | (go_at_call 15; refine (c9 _ I6 L6).mono ?_; clear c9; rintro e w7 ⟨rfl, f7⟩; have F7 := F6.trans f7)
        | fail)
      go_ret
      exact ⟨rfl, F7⟩
end Go.Proofs.Ythalpgandfbkdaa
