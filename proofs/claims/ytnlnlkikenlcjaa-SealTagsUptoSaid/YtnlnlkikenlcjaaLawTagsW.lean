/- The law SealTags walked. -/
import Derived.Test.YtnlnlkikenlcjaaTexts8
import Derived.Deep.CutRange
namespace Go.Proofs.Ytnlnlkikenlcjaa
open Go.RowKit Go.Lib Go.Joins Base Go.Maps
set_option linter.unusedVariables false
set_option linter.unusedSimpArgs false

theorem zeros_facts (z : Nat) (hz : z ≤ 1000) (w : World) : ∃ (o : Obj) (s : ByteArray), s.size = z ∧
    (∀ w' : World, (Instr.makeSlice 28 (.int .i64 z) (.int .i64 z)).run Try.prog w' = .ok (.slice (some ⟨w'.heap.size, 0, none⟩) z z) (w'.alloc o)) ∧
    (convert 28 9 (.slice (some ⟨w.heap.size, 0, none⟩) z z)).run Try.prog (w.alloc o) = .ok (.string s) (w.alloc o) := by
  have hi8 : (Try.prog.info? 5).map (fun i => (i.zero, i.size, i.bytes)) = some (some (.int .u8 0), 1, 1) := by kernel_rfl
  refine ⟨.cells (byteCells (zerosB z)).toArray 5, ⟨(zerosB z).toArray⟩, by show (zerosB z).toArray.size = z; simp [zerosB], fun w' => run_mk (P := Try.prog) Try.underlying28 hi8 z (by omega) w', ?_⟩
  have A := At.alloc_new w 5 (byteCells (zerosB z)).toArray
  exact run_strB Try.underlying28 Try.underlying5 Try.underlying9 _ w.heap.size 0 z _ (zerosB z) [] [] (by simpa using A) rfl z (by simp [zerosB])
theorem own_block {w : World} {base size : Nat} {e : TypeId} {v : Value} {n : Nat} {xs : List Value} (h : w.ownsRow base e size v n xs) {g : Nat} (hg : g ∈ v.ownBlock.toList) :
    base ≤ g ∧ ∃ cur, w.heap[g]? = some (.cells cur e (0, 0)) := by
  obtain ⟨_, h' | ⟨g', cap, cur, hv, hb, hg', r⟩⟩ := h
  · rw [h'.1] at hg; simp [Value.ownBlock] at hg
  · rw [hv] at hg
    have : g = g' := by simpa [Value.ownBlock] using hg
    subst this
    exact ⟨hb, _, hg'⟩
theorem own_apart {w : World} {base base' size size' : Nat} {e e' : TypeId} {v v' : Value} {n n' : Nat} {xs xs' : List Value} (h : w.ownsRow base e size v n xs) (h' : w.ownsRow base' e' size' v' n' xs') (he : e ≠ e') {g : Nat} (hg : g ∈ v.ownBlock.toList) : g ∉ v'.ownBlock.toList := by
  intro hg'
  obtain ⟨_, cur, h1⟩ := own_block h hg
  obtain ⟨_, cur', h2⟩ := own_block h' hg'
  have := h1.symm.trans h2
  simp at this
  exact he this.2
theorem own_idl {w : World} {base base' p b size : Nat} {e : TypeId} {v vr : Value} {n : Nat} {xs : List Value} {rs : List Rw} {F} (h : w.ownsRow base' e size v n xs) (hI : Idl w base p b vr rs F) (h1 : e ≠ 41) (h2 : e ≠ 43) {g : Nat} (hg : g ∈ v.ownBlock.toList) :
    g ≠ p ∧ g ≠ b ∧ g ∉ vr.ownBlock.toList := by
  obtain ⟨_, cur, hc⟩ := own_block h hg
  refine ⟨?_, ?_, own_apart h hI.row h2 hg⟩
  · rintro rfl
    have := hc.symm.trans hI.at_.out
    simp at this
    exact h1 this.2
  · rintro rfl
    obtain ⟨D, ⟨es, clock, hb2, _⟩, _⟩ := hI.tab
    have := hc.symm.trans hb2
    simp at this
theorem own_slice {w : World} {base size : Nat} {e : TypeId} {v : Value} {n : Nat} {xs : List Value} (h : w.ownsRow base e size v n xs) :
    ∃ ao c, v = .slice ao n c ∧ (0 < n → ∃ g, ao = some ⟨g, 0, none⟩) := by
  rcases ownsRow_forms h with ⟨rfl, rfl⟩ | ⟨g, cap, rfl⟩
  · exact ⟨none, 0, rfl, fun h => absurd h (by omega)⟩
  · exact ⟨_, _, rfl, fun _ => ⟨g, rfl⟩⟩
set_option maxRecDepth 100000 in
set_option maxHeartbeats 4000000 in
theorem tags_law {H : Type} {d0 : DataW H} {w : World} (v : Value) (ps : List ByteArray) (hv : IsT w v ps ∧ (Rows.uptoSmall H [d0] = true → bulkL ps ≤ 1048576)) (hk : Rows.uptoSmall H [d0] = true) :
    Calls Try.prog 3 #[v] w fun e w' => e = .returned (.bool true) ∧ Fr [] w w' := by
  obtain ⟨⟨ad, cap, rfl, hcap, hT, h16⟩, hb⟩ := hv
  have hbulk := hb hk
  have hlen := bulk_len ps
  have hn : ps.length ≤ 1048576 := by omega
  have hmem : ∀ s ∈ ps, s.size ≤ 1048576 := fun s hs => by have := bulk_mem ps s hs; omega
  have hi5 : (Try.prog.info? 9).map (fun i => (i.zero, i.size, i.bytes)) = some (some (.string ⟨#[]⟩), 1, 16) := by kernel_rfl
  obtain ⟨iT, hiT, zT0, zT1, zT2⟩ := info_parts hi5
  have hi8 : (Try.prog.info? 5).map (fun i => (i.zero, i.size, i.bytes)) = some (some (.int .u8 0), 1, 1) := by kernel_rfl
  have hnm := Lib.hid hmem
  clear hbulk hlen hmem hb hk h16
  go_enter Try.func3, Try.ntmps3
  go_upto_region 6 with (first
    | (go_at_call 4; refine (new_any _).mono ?_; rintro e w1 ⟨p, b, rfl, hpb, hp, hb, A1, T1, f1⟩)
    | (go_at_call 5; refine (num8_any _ _).mono ?_; rintro e w2 ⟨rfl, rfl⟩)
    | fail)
  have hI1 : Idl w1 w.heap.size p b (.slice none 0 0) [] (fun _ => 0) := ⟨A1, ⟨rfl, .inl ⟨rfl, rfl⟩⟩, Tab.made T1⟩
  have rel0 : ∃ (i : Nat) (G : List ByteArray) (rs : List Rw) (F : ByteArray → Int) (vr : Value), i ≤ ps.length + 1 ∧ Value.int .i64 0 = .int .i64 i ∧ w1.ownsRow w.heap.size 9 1 (.slice none 0 0) G.length (tcells G) ∧ Idl w1 w.heap.size p b vr rs F ∧ rs.length = G.length ∧ G.length ≤ i ∧ (∀ t, F t = 0 ↔ t ∉ G) ∧ Fr [] w w1 :=
    ⟨0, [], [], fun _ => 0, .slice none 0 0, by omega, rfl, ⟨rfl, .inl ⟨rfl, rfl⟩⟩, hI1, rfl, by simp, by simp, f1⟩
  clear A1 T1 f1 hI1
  go_loopw [5, 6, 7, 8, 9, 10, 11, 12] (fun v5 v6 _ _ _ _ _ _ wr => ∃ (i : Nat) (G : List ByteArray) (rs : List Rw) (F : ByteArray → Int) (vr : Value), i ≤ ps.length + 1 ∧ v6 = .int .i64 i ∧ wr.ownsRow w.heap.size 9 1 v5 G.length (tcells G) ∧ Idl wr w.heap.size p b vr rs F ∧ rs.length = G.length ∧ G.length ≤ i ∧ (∀ t, F t = 0 ↔ t ∉ G) ∧ Fr [] w wr) (fun _ v _ _ _ _ _ _ _ => ps.length + 1 - (RowKit.intOf v).toNat)
  case atStart => exact rel0
  case round =>
    clear rel0
    obtain ⟨i, G, rs, F, vr, hi, rfl, oG, hI, hrl, hGi, hF0, hF⟩ := hrel
    obtain ⟨aG, cG, rfl, haG⟩ := own_slice oG
    have HA := Lib.hid haG
    clear haG
    by_cases hl : i ≤ ps.length
    · have l1 : (i : Int) ≤ ps.length := by omega
      have cell : ∀ (h : i < ps.length), ∃ s, s.size ≤ 1048576 ∧ ∃ g o, ad = some ⟨g, o, none⟩ ∧ wr.cell? ⟨g, o + i, none⟩ = some (.string s) := fun h => by
        obtain ⟨g, o, e, hc⟩ := (hT.keep hF) i _ (List.getElem?_eq_getElem h)
        exact ⟨_, hnm.out _ (List.getElem_mem h), g, o, e, hc⟩
      have HH := Lib.hid (And.intro hrl hF0)
      have HC := Lib.hid cell
      clear hrl hF0 cell
      go_upto_if 33 with fail
      go_cut [7] from 24 to 132 (fun v7 wc => wr = wc ∧ ∃ c0 : ByteArray, v7 = .string c0 ∧ c0.size ≤ 1048576)
      case first =>
        by_cases h : i < ps.length
        · obtain ⟨s, hs, g, o, rfl, hc⟩ := HC.out h
          have l2 : (i : Int) < ps.length := by omega
          go_wp2_with fail
          go_meet
          case rel => exact ⟨rfl, _, rfl, hs⟩
        · have l2 : ¬ (i : Int) < ps.length := by omega
          go_wp2_with fail
          go_meet
          case rel => exact ⟨rfl, _, rfl, by decide⟩
      case rest =>
        obtain ⟨rfl, c0, rfl, hc0⟩ := hcut
        clear HC
        have cM := fun w => mod_any c0.size 11 (by omega) (by omega) w
        have hq1 : c0.size % 11 < 11 := Nat.mod_lt _ (by omega)
        have rR : ∀ t, binOp .rem t (.int .i64 ((c0.size % 11 : Nat) : Int)) (.int .i64 (c0.size + 1)) = pure (.int .i64 ((c0.size % 11 % (c0.size + 1) : Nat) : Int)) := by
          intro t
          simp only [binOp, Op.intDiv]
          rw [if_neg (by simp), if_neg (by omega), Int.tmod_eq_emod_of_nonneg (by omega)]
          rfl
        have hq2 : c0.size % 11 % (c0.size + 1) ≤ 10 := Nat.le_trans (Nat.mod_le _ _) (by omega)
        have hq3 : c0.size % 11 % (c0.size + 1) ≤ c0.size := by have := Nat.mod_lt (c0.size % 11) (show 0 < c0.size + 1 by omega); omega
        obtain ⟨q, hq⟩ : ∃ q, q = c0.size % 11 := ⟨_, rfl⟩
        rw [← hq] at rR hq1 hq2 hq3
        simp only [← hq] at cM
        obtain ⟨r, hr⟩ : ∃ r, r = q % (c0.size + 1) := ⟨_, rfl⟩
        rw [← hr] at rR hq2 hq3
        have wr1 : IntKind.i64.wrap ((c0.size : Int) + 1) = (c0.size : Int) + 1 := IntWalk.i64_in _ (by omega)
        have wr2 : IntKind.i64.wrap ((40 : Int) + r) = ((40 + r : Nat) : Int) := by rw [IntWalk.i64_in _ (by omega)]; omega
        obtain ⟨m, hm⟩ : ∃ m, m = 40 + r := ⟨_, rfl⟩
        rw [← hm] at wr2
        clear hq hr
        have b3 : ((c0 ++ ⟨(zerosB 40).toArray⟩ : ByteArray)).size = c0.size + 40 := by rw [ByteArray.size_append]; rfl
        have l3 : (m : Int) ≤ (c0.size : Int) + 40 := by omega
        have l4 : 40 ≤ m ∧ m ≤ 50 := by omega
        have l5 : m ≤ c0.size + 40 := by omega
        clear hm
        go_upto_region 11 with fail
        obtain ⟨zs, hzs⟩ : ∃ zs : ByteArray, zs = ⟨(zerosB 40).toArray⟩ := ⟨_, rfl⟩
        rw [← hzs] at b3
        have hcv : ∀ Z, Z = (byteCells (zerosB 40)).toArray → (convert 28 9 (.slice (some ⟨wr.heap.size, 0, none⟩) 40 40)).run Try.prog (wr.alloc (.cells Z 5)).drew = .ok (.string zs) (wr.alloc (.cells Z 5)).drew := by
          rintro Z rfl
          have A : At (wr.alloc (.cells (byteCells (zerosB 40)).toArray 5)).drew wr.heap.size 5 _ := At.alloc_new wr 5 (byteCells (zerosB 40)).toArray
          rw [hzs]
          exact run_strB Try.underlying28 Try.underlying5 Try.underlying9 _ wr.heap.size 0 40 _ (zerosB 40) [] [] (by simpa using A) rfl 40 rfl
        have hmk : (Instr.makeSlice 28 (.int .i64 40) (.int .i64 40)).run Try.prog wr.drew = .ok (.slice (some ⟨wr.heap.size, 0, none⟩) 40 40) (wr.drew.alloc (.cells (byteCells (zerosB 40)).toArray 5)) := by
          have := run_mk (P := Try.prog) Try.underlying28 hi8 40 (by omega) wr.drew
          simpa using this
        obtain ⟨Z, hZ⟩ : ∃ Z, Z = (byteCells (zerosB 40)).toArray := ⟨_, rfl⟩
        rw [← hZ] at hmk
        have hcv := hcv Z hZ
        have l6 : ¬ 9223372036854775807 < c0.size + zs.size := by
          have : zs.size = 40 := by rw [hzs]; rfl
          omega
        clear hZ hzs
        go_cut [7] from 24 to 132 (fun v7 wc => Fr [] wr wc ∧ ∃ c : ByteArray, v7 = .string c ∧ 40 ≤ c.size ∧ c.size ≤ 50)
        case first =>
          go_region_with (first
            | (go_at_call 6; refine (cM _).mono ?_; rintro e w7 ⟨rfl, rfl⟩))
          all_goals go_wp2_with fail
          all_goals go_meet
          all_goals exact ⟨(Fr.alloc [] wr _).trans (Fr.drew _ _), _, rfl, by rw [ByteArray.size_extract]; omega, by rw [ByteArray.size_extract]; omega⟩
        case rest =>
          clear l6 hcv hmk cM rR wr1 wr2 b3 l3 l4 l5 hq1 hq2 hq3
          obtain ⟨hFc, c, rfl, hc1, hc2⟩ := hcut
          have oG := own_fr oG hFc (by simp)
          have hI := hI.fr hFc (by simp) (by simp) (by simp)
          have hF := hF.trans hFc
          clear hFc hc0
          have tsz := tag_len c (by omega)
          have w1 : IntKind.i64.wrap ((c.size : Int) - 16) = ((c.size - 16 : Nat) : Int) := by rw [IntWalk.i64_in _ (by omega)]; omega
          obtain ⟨t, ht⟩ : ∃ t, t = tagB c := ⟨_, rfl⟩
          have ht2 : c.extract (c.size - 16) c.size = t := by rw [ht]; rfl
          obtain ⟨k16, hk16⟩ : ∃ k, k = c.size - 16 := ⟨_, rfl⟩
          rw [← hk16] at w1 ht2
          have l7 : k16 ≤ c.size := by omega
          have l8 : (k16 : Int) ≤ c.size := by omega
          clear hk16
          have HT := Lib.hid (And.intro ht tsz)
          clear ht tsz
          go_upto_region 14 with fail
          have rel1 : ∃ (k : Nat) (o : Bool), k ≤ G.length ∧ Value.int .i64 0 = .int .i64 k ∧ Value.bool false = .bool o ∧ (o = true ↔ t ∈ G.take k) ∧ Fr [] wc wc := ⟨0, false, by omega, rfl, rfl, by simp, Fr.refl _ _⟩
          go_loopw [8, 9] (fun v8 v9 wr => ∃ (k : Nat) (o : Bool), k ≤ G.length ∧ v9 = .int .i64 k ∧ v8 = .bool o ∧ (o = true ↔ t ∈ G.take k) ∧ Fr [] wc wr) (fun _ v _ => G.length - (RowKit.intOf v).toNat)
          case atStart => exact rel1
          case round =>
            clear rel1
            obtain ⟨k, o, hkG, rfl, rfl, ho, hFk⟩ := hrel
            have oGk := own_fr oG hFk (by simp)
            by_cases hkl : k < G.length
            · obtain ⟨gG, rfl⟩ := HA.out (by omega)
              have l9 : (k : Int) < G.length := by omega
              obtain ⟨s, hs⟩ : ∃ s, G[k]? = some s := ⟨_, List.getElem?_eq_getElem hkl⟩
              have hcs : wr.cell? ⟨gG, k, none⟩ = some (.string s) := by rw [oGk.cellAt k (by omega)]; simp [tcells, hs]
              have htk : G.take (k + 1) = G.take k ++ [s] := by rw [List.take_add_one, hs]; rfl
              have HS := Lib.hid (And.intro ho (And.intro htk oGk))
              clear ho htk hs oGk
              cases o with
              | true =>
                go_wp2_with fail
                go_region
                go_wp2_with fail
                refine ⟨⟨k + 1, true, by omega, by simp, rfl, ?_, hFk.trans (Fr.drew _ _)⟩, by simp only [RowKit.intOf]; omega⟩
                rw [HS.out.2.1]; simp only [List.mem_append, true_iff]; exact .inl (HS.out.1.1 (by trivial))
              | false =>
                by_cases hst : s = t
                · have se := str_eq hst
                  have HE := Lib.hid hst
                  clear hst
                  go_wp2_with fail
                  go_region
                  go_wp2_with fail
                  refine ⟨⟨k + 1, true, by omega, by simp, rfl, ?_, hFk.trans (Fr.drew _ _)⟩, by simp only [RowKit.intOf]; omega⟩
                  rw [HS.out.2.1, HE.out]; simp
                · have se := str_neq hst
                  have HE := Lib.hid hst
                  clear hst
                  go_wp2_with fail
                  go_region
                  go_wp2_with fail
                  refine ⟨⟨k + 1, false, by omega, by simp, rfl, ?_, hFk.trans (Fr.drew _ _)⟩, by simp only [RowKit.intOf]; omega⟩
                  rw [HS.out.2.1]
                  have h1 := HS.out.1
                  simp only [Bool.false_eq_true, false_iff, List.mem_append, List.mem_singleton, not_or] at h1 ⊢
                  exact ⟨h1, fun e => HE.out e.symm⟩
            · obtain rfl : k = G.length := by omega
              rw [List.take_length] at ho
              have hI := hI.fr hFk (by simp) (by simp) (by simp)
              have hF := hF.trans hFk
              have HO := Lib.hid ho
              clear oG hFk ho
              have cF := fresh_any p b rs.length vr F c (by omega) wr hI.at_ hI.tab
              rw [← HT.out.1] at cF
              have hI0 := hI
              have hFt := HH.out.2 t
              cases o with
              | true =>
                have hFn : F t ≠ 0 := fun h => (hFt.1 h) (HO.out.1 rfl)
                rw [show (F t == 0) = false by simp [hFn]] at cF
                have cS := fun t' h1 w' h2 => seal_stale w.heap.size p b vr rs F ⟨#[110]⟩ t' c (by decide) h1 (by omega) (by have := HH.out.1; omega) (by rw [← HT.out.1]; exact hFn) w' h2
                clear hFn hFt
                go_upto_region 18 with (first
                  | (go_at_call 7; refine cF.mono ?_; clear cF; rintro e w3 ⟨rfl, f3⟩)
                  | fail)
                have hz3 := zeros_facts (c.size - 40) (by omega) w3
                have wz : IntKind.i64.wrap ((c.size : Int) - 40) = ((c.size - 40 : Nat) : Int) := by rw [IntWalk.i64_in _ (by omega)]; omega
                obtain ⟨z, hz⟩ : ∃ z, z = c.size - 40 := ⟨_, rfl⟩
                rw [← hz] at hz3 wz
                obtain ⟨oz, sz, hsz, hmz, hcz⟩ := hz3
                have hmz := hmz w3
                have l10 : sz.size + 40 = c.size := by omega
                have HZ := Lib.hid hsz
                have l11 : z ≤ 1000 := by omega
                clear hz hsz
                have cS := cS sz l10 (w3.alloc oz) (hI.fr (f3.trans (Fr.alloc _ _ _)) (by simp) (by simp) (by simp)) (hF.trans (f3.trans (Fr.alloc _ _ oz))).size
                go_upto_region 19 with (first
                  | (go_at_call 8; refine cS.mono ?_; clear cS; rintro e w4 ⟨rfl, f4⟩)
                  | fail)
                have fA := (f3.trans (Fr.alloc _ _ oz)).trans f4
                obtain ⟨Gc, hGc⟩ : ∃ Gc : World → Prop, Gc = Fr [] w4 := ⟨_, rfl⟩
                have gW : ∀ w', Gc w' ↔ Fr [] w4 w' := fun w' => by rw [hGc]
                have g2 : ∀ x : Gw Gc, Fr [] w4 x.w := fun x => (gW _).1 x.ok
                have g1 : ∀ (x : Gw Gc) w', Fr [] x.w w' → Gc w' := fun x w' f => (gW _).2 ((g2 x).trans f)
                have g0 : Gc w4.drew := (gW _).2 (Fr.drew _ _)
                have ne : Nonempty (Gw Gc) := ⟨⟨_, g0⟩⟩
                have cN := fun (a : Int) w => (num8_any a w).mono (R' := fun e w' => e = .returned (.int .i64 a) ∧ Fr [] w w') (fun e w' ⟨h1, h2⟩ => ⟨h1, h2 ▸ Fr.refl _ _⟩)
                have e0 := str_eq (rfl : (⟨#[]⟩ : ByteArray) = ⟨#[]⟩)
                clear hGc
                refine wp_region_gw Gc (by kernel_rfl) (by kernel_rfl) g0 ?_
                repeat (go_big_quiet_step (first
                  | (go_at_call 5; exact gw_call (cN _ _) (g1 _))))
                refine wpQuiet_nil ?_
                rintro _ ⟨x5, rfl⟩
                have f5 := g2 x5
                generalize x5.w = w5 at f5 ⊢
                clear g0 g1 g2 gW ne cN
                go_wp2_with fail
                have fB := fA.trans f5
                exact ⟨⟨i + 1, G, rs, F, vr, by omega, by simp, own_fr oGk fB (by simp), hI.fr fB (by simp) (by simp) (by simp), HH.out.1, by omega, HH.out.2, hF.trans fB⟩, by simp only [RowKit.intOf]; omega⟩
              | false =>
                have hFn : F t = 0 := hFt.2 (fun h => by have := HO.out.2 h; simp at this)
                rw [show (F t == 0) = true by simp [hFn]] at cF
                have cS := fun t' h1 w' h2 => seal_ok w.heap.size p b vr rs F ⟨#[110]⟩ t' c (by decide) h1 (by omega) (by have := HH.out.1; omega) (by rw [← HT.out.1]; exact hFn) w' h2
                have cT := fun w => (tag_any c (by omega) (by omega) w).mono (R' := fun e w' => e = .returned (.string t) ∧ Fr [] w w') (fun e w' ⟨h1, h2⟩ => ⟨by rw [h1, HT.out.1], h2 ▸ Fr.refl _ _⟩)
                clear hFn hFt
                go_upto_region 18 with (first
                  | (go_at_call 7; refine cF.mono ?_; clear cF; rintro e w3 ⟨rfl, f3⟩)
                  | fail)
                have hz3 := zeros_facts (c.size - 40) (by omega) w3
                have wz : IntKind.i64.wrap ((c.size : Int) - 40) = ((c.size - 40 : Nat) : Int) := by rw [IntWalk.i64_in _ (by omega)]; omega
                obtain ⟨z, hz⟩ : ∃ z, z = c.size - 40 := ⟨_, rfl⟩
                rw [← hz] at hz3 wz
                obtain ⟨oz, sz, hsz, hmz, hcz⟩ := hz3
                have hmz := hmz w3
                have l10 : sz.size + 40 = c.size := by omega
                have HZ := Lib.hid hsz
                have l11 : z ≤ 1000 := by omega
                clear hz hsz
                have hI3 := hI.fr (f3.trans (Fr.alloc _ _ oz)) (by simp) (by simp) (by simp)
                have oG3 := own_fr oGk (f3.trans (Fr.alloc _ _ oz)) (by simp)
                have cS := cS sz l10 (w3.alloc oz) hI3 (hF.trans (f3.trans (Fr.alloc _ _ oz))).size
                go_upto_region 19 with (first
                  | (go_at_call 8; refine cS.mono ?_; clear cS; rintro e w4 ⟨vr2, rfl, hI4, f4⟩)
                  | fail)
                have hdis : ∀ g ∈ (Value.slice aG G.length cG).ownBlock.toList, g ∉ p :: b :: vr.ownBlock.toList := fun g hg => by
                  obtain ⟨n1, n2, n3⟩ := own_idl oG3 hI3 (by decide) (by decide) hg
                  simp [n1, n2]; simpa using n3
                have oG4 := own_fr oG3 f4 (fun g hg => hdis g (by rw [hg]; simp))
                have hF4 := (hF.trans (f3.trans (Fr.alloc _ _ oz))).new f4 (by
                  intro y hy
                  rcases List.mem_cons.1 hy with rfl | hy
                  · exact hp
                  · rcases List.mem_cons.1 hy with rfl | hy
                    · exact hb
                    · exact (own_block hI3.row hy).1)
                clear hI3 oG3 hI hI0 f4 f3 hF hdis oGk
                obtain ⟨Gc, hGc⟩ : ∃ Gc : World → Prop, Gc = Fr [] w4 := ⟨_, rfl⟩
                have gW : ∀ w', Gc w' ↔ Fr [] w4 w' := fun w' => by rw [hGc]
                have g2 : ∀ x : Gw Gc, Fr [] w4 x.w := fun x => (gW _).1 x.ok
                have g1 : ∀ (x : Gw Gc) w', Fr [] x.w w' → Gc w' := fun x w' f => (gW _).2 ((g2 x).trans f)
                have g0 : Gc w4.drew := (gW _).2 (Fr.drew _ _)
                have ne : Nonempty (Gw Gc) := ⟨⟨_, g0⟩⟩
                have cN := fun (a : Int) w => (num8_any a w).mono (R' := fun e w' => e = .returned (.int .i64 a) ∧ Fr [] w w') (fun e w' ⟨h1, h2⟩ => ⟨h1, h2 ▸ Fr.refl _ _⟩)
                have e0 := str_eq (rfl : (⟨#[]⟩ : ByteArray) = ⟨#[]⟩)
                clear hGc
                have e1 := str_eq (rfl : c = c)
                have e2 := str_eq (rfl : t = t)
                refine wp_region_gw Gc (by kernel_rfl) (by kernel_rfl) g0 ?_
                repeat (go_big_quiet_step (first
                  | (go_at_call 5; exact gw_call (cN _ _) (g1 _))
                  | (go_at_call 9; exact gw_call (cT _) (g1 _))))
                refine wpQuiet_nil ?_
                rintro _ ⟨x5, rfl⟩
                have f5 := g2 x5
                generalize x5.w = w5 at f5 ⊢
                clear g0 g1 g2 gW ne cN cT
                have oG5 := own_fr oG4 f5 (by simp)
                have hI5 := hI4.fr f5 (by simp) (by simp) (by simp)
                have hF5 := hF4.trans f5
                clear oG4 hI4 hF4 f5
                have A6 := At.alloc_new w5 9 #[Value.string t]
                have hb6 := hF5.size
                go_wp2_with (first
                  | (at_builtin; refine wpList_append_own _ rfl _ _ _ rfl w.heap.size 9 iT _ 1 16 Try.underlying22 hiT zT0 zT1 zT2 rfl (by decide) _ G.length _ rfl (World.ownsRow.alloc oG5 _) ⟨w5.heap.size, 0, none⟩ 1 1 [.string t] rfl rfl (by intro j u hj; rw [addr_add', Nat.zero_add]; exact (A6.cell j).trans hj) (by intro u hu; simp at hu; subst hu; rfl) (by simp [maxLen]; omega) (by omega) (by simp; omega) ?_; intro v6 w6 o6 gr6 _)
                  | fail)
                have f6 : Fr (Value.slice aG G.length cG).ownBlock.toList w5 w6 := (Fr.alloc _ w5 _).trans (Fr.ofGrown gr6 (by intro y hy; have hy : (Value.slice aG G.length cG).ownBlock = some y := hy; rw [hy]; simp))
                have dis := fun g hg => own_idl (g := g) oG5 hI5 (by decide) (by decide) hg
                have hI6 := hI5.fr f6 (fun h => (dis _ h).1 rfl) (fun h => (dis _ h).2.1 rfl) (fun g hg h => (dis _ h).2.2 hg)
                have hF6 := hF5.new f6 (fun y hy => (own_block oG5 hy).1)
                refine ⟨⟨i + 1, G ++ [t], rs ++ [(1, ⟨#[110]⟩, c, sz)], _, vr2, by omega, by simp, ?_, hI6, by simp [HH.out.1], by simp; omega, fun y => ?_, hF6⟩, by simp only [RowKit.intOf]; omega⟩
                · rw [tcells_app, List.length_append]; exact o6
                · rw [← HT.out.1]
                  by_cases hy : y = t
                  · subst hy
                    simp; omega
                  · simp only [hy, if_false, HH.out.2 y, List.mem_append, List.mem_singleton, or_false]
    · obtain rfl : i = ps.length + 1 := by omega
      have cTb := table_any w.heap.size p b vr rs F (by omega) wr hI
      rw [hrl] at cTb
      clear hI oG hF0 hrl hGi
      go_wp2_with (first
        | (go_at_call 10; refine cTb.mono ?_; clear cTb; rintro e w7 ⟨a7, c7, rfl, _, f7⟩)
        | fail)
      go_ret
      exact ⟨rfl, hF.trans f7⟩
end Go.Proofs.Ytnlnlkikenlcjaa
