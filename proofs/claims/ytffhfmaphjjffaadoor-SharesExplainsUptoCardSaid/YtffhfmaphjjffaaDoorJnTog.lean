/- Shares that belong together, read by the program. -/
import Derived.Test.YtffhfmaphjjffaaDoorJnTogP
import Derived.Test.YtffhfmaphjjffaaDoorUntil
namespace Go.Proofs.YtffhfmaphjjffaaDoor
open Go.RowKit Go.Lib Go.Joins Base Gf
set_option linter.unusedVariables false
set_option linter.unusedSimpArgs false

theorem kinC_one (k : Nat × ByteArray) : ((kinCells k).toArray).all (·.oneCell') = true := kin_one _ _
theorem ptC_one (p : Pt) : ∀ v ∈ ptCells p, v.oneCell' = true := by
  intro y hy
  rcases List.mem_cons.1 hy with rfl | hy
  · rfl
  · exact byteCells_one p.2 y hy
theorem kinC_one' (k : Nat × ByteArray) : ∀ v ∈ kinCells k, v.oneCell' = true := by
  intro v hv; simp only [kinCells, List.mem_cons, List.not_mem_nil, or_false] at hv; rcases hv with rfl | rfl <;> rfl
/-- Within a round: the two lists, the share that was read. -/
structure TG (w X : World) (B m : Nat) (P : Pt) (k : Nat × ByteArray) (v5 : Value) (n5 : Nat) (c5 : List Value) (v6 : Value) (n6 : Nat) (c6 : List Value) : Prop where
  hF : Fr [] w X
  hB : w.heap.size = B ∧ B < m
  a0 : At X B 69 [.int .i64 0, .string ⟨#[]⟩]
  a2 : At X m 66 (ptCells P)
  a3 : At X (m + 1) 69 (kinCells k)
  r5 : X.ownsRow (B + 1) 66 33 v5 n5 c5
  r6 : X.ownsRow (B + 1) 69 2 v6 n6 c6
theorem TG.keep {w X Y : World} {B m : Nat} {P : Pt} {k : Nat × ByteArray} {v5 v6 : Value} {n5 n6 : Nat} {c5 c6 : List Value} (h : TG w X B m P k v5 n5 c5 v6 n6 c6) (f : Fr [] X Y) : TG w Y B m P k v5 n5 c5 v6 n6 c6 :=
  ⟨h.hF.trans f, h.hB, f.keep h.a0 (by simp), f.keep h.a2 (by simp), f.keep h.a3 (by simp), own_fr h.r5 f (by simp), own_fr h.r6 f (by simp)⟩
theorem At.grown {X Y : World} {g m : Nat} {T : TypeId} {cs : List Value} {v : Value} (h : At X g T cs) (gr : X.grownBy Y v.ownBlock) (hb : ∀ b, v.ownBlock = some b → b < m) (hg : m ≤ g) : At Y g T cs :=
  (Fr.ofGrown gr (S := v.ownBlock.toList) (by intro k hk; rw [hk]; simp)).keep h (fun hx => by have := hb g (by simpa using hx); omega)
theorem TG.grow5 {w X Y : World} {B m : Nat} {P : Pt} {k : Nat × ByteArray} {v5 v6 v5' : Value} {n5 n6 n5' : Nat} {c5 c6 c5' : List Value} (h : TG w X B m P k v5 n5 c5 v6 n6 c6) (h5 : ∀ g, v5.ownBlock = some g → B < g ∧ g < m) (gr : X.grownBy Y v5.ownBlock)
    (r : Y.ownsRow (B + 1) 66 33 v5' n5' c5') : TG w Y B m P k v5' n5' c5' v6 n6 c6 := by
  have f : Fr v5.ownBlock.toList X Y := Fr.ofGrown gr (by intro k hk; rw [hk]; simp)
  have hb := h.hB
  exact ⟨h.hF.new f (fun x hx => by have := h5 x (by simpa using hx); omega), hb, f.keep h.a0 (fun hx => by have := h5 B (by simpa using hx); omega), At.grown h.a2 gr (fun b hb => (h5 b hb).2) (Nat.le_refl _), At.grown h.a3 gr (fun b hb => (h5 b hb).2) (by omega), r, own_else h.r5 h.r6 (by decide) gr rfl⟩
theorem TG.grow6 {w X Y : World} {B m : Nat} {P : Pt} {k : Nat × ByteArray} {v5 v6 v6' : Value} {n5 n6 n6' : Nat} {c5 c6 c6' : List Value} (h : TG w X B m P k v5 n5 c5 v6 n6 c6) (h6 : ∀ g, v6.ownBlock = some g → B < g ∧ g < m) (gr : X.grownBy Y v6.ownBlock)
    (r : Y.ownsRow (B + 1) 69 2 v6' n6' c6') : TG w Y B m P k v5 n5 c5 v6' n6' c6' := by
  have f : Fr v6.ownBlock.toList X Y := Fr.ofGrown gr (by intro k hk; rw [hk]; simp)
  have hb := h.hB
  exact ⟨h.hF.new f (fun x hx => by have := h6 x (by simpa using hx); omega), hb, f.keep h.a0 (fun hx => by have := h6 B (by simpa using hx); omega), At.grown h.a2 gr (fun b hb => (h6 b hb).2) (Nat.le_refl _), At.grown h.a3 gr (fun b hb => (h6 b hb).2) (by omega), own_else h.r6 h.r5 (by decide) gr rfl, r⟩
set_option maxRecDepth 100000 in
set_option maxHeartbeats 8000000 in
theorem together_any (ps : List ByteArray) (ad : Option Addr) (cap : Nat) (hn : ps.length ≤ 4194304) (w : World) (hI : First w) (hR : Roots w) (hT : Texts w ad ps) :
    Calls Tryd.prog 35 #[.slice ad ps.length cap] w fun e w' => Fr [] w w' ∧ ∃ v K, e = .returned (.tuple #[v, K, .int .i64 (togE ps)]) ∧ (togE ps ≠ 0 → v = .slice none 0 0 ∧ K = kin0) ∧ (togE ps = 0 → w'.ownsRow w.heap.size 66 33 v ps.length (ptsC ps) ∧ (ps = [] → K = kin0) ∧ ∀ s, ps[0]? = some s → K = .agg (kinCells (kinO s)).toArray) := by
  have hi1 : (Tryd.prog.info? 66).map (·.size) = some 33 := by kernel_rfl
  have hi2 : (Tryd.prog.info? 69).map (·.size) = some 2 := by kernel_rfl
  have hiP5 : (Tryd.prog.info? 66).map (fun i => (i.zero, i.size, i.bytes)) = some (some (.agg (List.replicate 33 (Value.int .u8 0)).toArray), 33, 33) := by kernel_rfl
  obtain ⟨iP, hiP, zP0, zP1, zP2⟩ := info_parts hiP5
  have hiK5 : (Tryd.prog.info? 69).map (fun i => (i.zero, i.size, i.bytes)) = some (some (.agg #[.int .i64 0, .string ⟨#[]⟩]), 2, 24) := by kernel_rfl
  obtain ⟨iK, hiK, zK0, zK1, zK2⟩ := info_parts hiK5
  have A0 := At.alloc_new w 69 #[.int .i64 0, .string ⟨#[]⟩]
  have hF := Fr.alloc [] w (.cells #[.int .i64 0, .string ⟨#[]⟩] 69)
  obtain ⟨B, hB⟩ : ∃ B, B = w.heap.size := ⟨_, rfl⟩
  go_enter Tryd.func35, Tryd.ntmps35
  rw [← hB]
  go_upto_region 3 with fail
  generalize (w.alloc (.cells #[.int .i64 0, .string ⟨#[]⟩] 69)) = W at A0 hF ⊢
  go_wp2_with fail
  go_loopw [5, 6, 8, 9, 10, 11, 19] (fun v5 v6 _ _ _ _ v19 wr => ∃ i : Nat, i ≤ ps.length ∧ v19 = .int .i64 i ∧ (∀ (j : Nat) (t : ByteArray), j < i → ps[j]? = some t → isE t.data.toList = 0) ∧ wr.ownsRow (B + 1) 66 33 v5 i (ptsC (ps.take i)) ∧ wr.ownsRow (B + 1) 69 2 v6 i (kinsC (ps.take i)) ∧ At wr B 69 [.int .i64 0, .string ⟨#[]⟩] ∧ Fr [] w wr) (fun _ _ _ _ _ _ v _ => ps.length - (intOf v).toNat)
  case atStart => exact ⟨0, by omega, rfl, fun j t hj => by omega, World.ownsRow_nil _ _ _ _, World.ownsRow_nil _ _ _ _, by rw [hB]; exact A0, hF⟩
  case round =>
    clear A0 hF
    obtain ⟨i, hi, rfl, hok, r5, r6, A0, hF⟩ := hrel
    have hBw := A0.lt
    by_cases hl : i < ps.length
    · have l1 : (i : Int) < ps.length := by omega
      obtain ⟨s, hs⟩ : ∃ s, ps[i]? = some s := ⟨_, List.getElem?_eq_getElem hl⟩
      obtain ⟨g, o, rfl, hc⟩ := (hT.keep hF) i s hs
      by_cases hE : isE s.data.toList = 0
      · have cR := fun w h1 h2 => read_any s w h1 h2
        unfold readV at cR
        rw [readV_ok hE] at cR
        obtain ⟨P, hPP⟩ : ∃ P, P = ptO s := ⟨_, rfl⟩
        obtain ⟨k, hk⟩ : ∃ k, k = kinO s := ⟨_, rfl⟩
        have hPl : P.2.length = 32 := by
          have := (isE_parts _ hE).1
          rw [hPP]; show (valD s.data.toList).length = 32
          simp [valD] at this ⊢; omega
        rw [← hPP, ← hk] at cR
        have eP : ptsC (ps.take (i + 1)) = ptsC (ps.take i) ++ ptCells P := by rw [hPP]; exact flat_snoc ps i s hs
        have ek : kinsC (ps.take (i + 1)) = kinsC (ps.take i) ++ kinCells k := by rw [hk]; exact flat_snoc ps i s hs
        have hok' : ∀ (j : Nat) (t : ByteArray), j < i + 1 → ps[j]? = some t → isE t.data.toList = 0 := fun j t hj ht => by
          by_cases h : j = i
          · subst h; rw [hs] at ht; cases ht; exact hE
          · exact hok j t (by omega) ht
        have HH := Lib.hid (And.intro hok' (And.intro eP ek))
        have hi3 : (Tryd.prog.info? 66).map (·.size) = some (ptCells P).toArray.size := by rw [hi1, List.size_toArray, ptCells_len P hPl]
        have hold : (List.replicate 33 (Value.int .u8 0)).toArray.size = (ptCells P).toArray.size := by rw [List.size_toArray, List.size_toArray, ptCells_len P hPl]; rfl
        clear hPP hk hok' eP ek hok hs hE
        go_upto_region 6 with fail
        have mk1 : True := trivial
        go_upto_region 7 with (first
          | (go_at_call 48; refine (cR _ (hI.keep hF) (hR.keep hF (by simp))).mono ?_; clear cR; rintro e w1 ⟨rfl, f1⟩; have hF := hF.trans f1; have A0 := f1.keep A0 (by simp); have r5 := own_fr r5 f1 (by simp); have r6 := own_fr r6 f1 (by simp); have A2 := (At.alloc_new w1 66 (List.replicate 33 (Value.int .u8 0)).toArray).alloc (.cells #[.int .i64 0, .string ⟨#[]⟩] 69); have A3 := At.alloc_new2 w1 (.cells (List.replicate 33 (Value.int .u8 0)).toArray 66) 69 #[.int .i64 0, .string ⟨#[]⟩])
          | (rw [lit33]; refine wpList_store_row rfl _ _ _ rfl _ _ rfl rfl _ _ A2.out hi3 hold (ptCells_one _) ?_)
          | refine wpList_store_row rfl _ _ _ rfl _ _ rfl rfl _ _ (A3.setRow_other (show w1.heap.size + 1 ≠ w1.heap.size by omega) (ptCells P).toArray).out hi2 rfl (kinC_one k) ?_
          | fail)
        rw [lit33]
        obtain ⟨m, hm⟩ : ∃ m, m = w1.heap.size := ⟨_, rfl⟩
        rw [← hm] at A2 A3 ⊢
        have f6 : Fr [m, m + 1] w1 ((((w1.alloc (.cells (List.replicate 33 (Value.int .u8 0)).toArray 66)).alloc (.cells #[.int .i64 0, .string ⟨#[]⟩] 69)).setRow m (ptCells P).toArray).setRow (m + 1) (kinCells k).toArray) :=
          (((Fr.alloc _ _ _).trans (Fr.alloc _ _ _)).trans (Fr.setRow _ _ m _ (.inl (by simp)))).trans (Fr.setRow _ _ (m + 1) _ (.inl (by simp)))
        have A2 := (A2.setRow (ptCells P).toArray).setRow_other (show m ≠ m + 1 by omega) (kinCells k).toArray
        have A3 := (A3.setRow_other (show m + 1 ≠ m by omega) (ptCells P).toArray).setRow (kinCells k).toArray
        have h5 : ∀ g, u5.ownBlock = some g → B < g ∧ g < m := fun g hg => by have := r5.lt g hg; omega
        have h6 : ∀ g, u6.ownBlock = some g → B < g ∧ g < m := fun g hg => by have := r6.lt g hg; omega
        have hB0 := A0.lt
        have tg : TG w _ B m P k u5 i (ptsC (ps.take i)) u6 i (kinsC (ps.take i)) := ⟨hF.new f6 (by intro x hx; simp at hx; omega), ⟨hB.symm, by omega⟩, f6.keep A0 (by simp; omega), A2, A3, own_fr r5 f6 (fun g hg => by have := h5 g hg; simp; omega), own_fr r6 f6 (fun g hg => by have := h6 g hg; simp; omega)⟩
        clear hm A0 A2 A3 r5 r6 f6 hF hold
        generalize ((((w1.alloc (.cells (List.replicate 33 (Value.int .u8 0)).toArray 66)).alloc (.cells #[.int .i64 0, .string ⟨#[]⟩] 69)).setRow m (ptCells P).toArray).setRow (m + 1) (kinCells k).toArray) = W1 at tg ⊢
        have ldP : ∀ w', At w' m 66 (ptCells P) → (loadVar 66 ⟨m, 0, none⟩).run Tryd.prog w' = .ok (.agg (ptCells P).toArray) w' := fun w' h => run_loadVar_row w' m 66 66 (ptCells P).toArray _ _ h.out Tryd.underlying66 rfl hi3
        have ldK : ∀ w', At w' (m + 1) 69 (kinCells k) → (loadVar 69 ⟨m + 1, 0, none⟩).run Tryd.prog w' = .ok (.agg (kinCells k).toArray) w' := fun w' h => run_loadVar_row w' (m + 1) 69 69 (kinCells k).toArray _ _ h.out Tryd.underlying69 rfl hi2
        have hbP : ∃ ie z, Tryd.prog.info? 66 = some ie ∧ ie.zero = some z ∧ ie.size = (ptCells P).length := ⟨iP, _, hiP, zP0, by rw [zP1, ptCells_len P hPl]⟩
        have hbK : ∃ ie z, Tryd.prog.info? 69 = some ie ∧ ie.zero = some z ∧ ie.size = (kinCells k).length := ⟨iK, _, hiK, zK0, by rw [zK1]; rfl⟩
        go_wp2_with fail
        refine wp_region_until (fun w' => (loadVar 66 ⟨m, 0, none⟩).run Tryd.prog w' = .ok (.agg (ptCells P).toArray) w' ∧ (loadVar 69 ⟨m + 1, 0, none⟩).run Tryd.prog w' = .ok (.agg (kinCells k).toArray) w') (fun _ => True) 1000 (by rfl) ?_
        have hTT : True := trivial
        have tg := tg.keep (Fr.drew [] W1)
        generalize W1.drew = X0 at tg ⊢
        have s0 := And.intro (ldP _ tg.a2) (ldK _ tg.a3)
        refine until_s0 1 (v := .agg (ptCells P).toArray) rfl (by kernel_rfl) (fun _ _ _ h => h) (Or.inl ⟨by rfl, fun w' hS => exec_load rfl rfl hS.1⟩) (by assumption) (fun h => by first | assumption | exact absurd (h : true = false) (by decide)) ?_
        simp only [Act.put, List.setIfInBounds_toArray, List.set_cons_zero, List.set_cons_succ]
        refine until_s0 5 (v := .agg (kinCells k).toArray) rfl (by kernel_rfl) (fun _ _ _ h => h) (Or.inl ⟨by rfl, fun w' hS => exec_load rfl rfl hS.2⟩) (by assumption) (fun h => by first | assumption | exact absurd (h : true = false) (by decide)) ?_
        simp only [Act.put, List.setIfInBounds_toArray, List.set_cons_zero, List.set_cons_succ]
        refine until_s0 0 (v := ?_) rfl (by kernel_rfl) (fun _ _ _ h => h) (Or.inl ⟨by rfl, ?_⟩) (by assumption) (fun h => by first | assumption | exact absurd (h : true = false) (by decide)) ?_
        rotate_left
        · intro w hSw; (try dsimp only at hSw); (try go_simp); (try with_reducible rfl)
        try simp only [Act.put, List.setIfInBounds_toArray, List.set_cons_zero, List.set_cons_succ]
        refine until_s0 4 (v := ?_) rfl (by kernel_rfl) (fun _ _ _ h => h) (Or.inl ⟨by rfl, ?_⟩) (by assumption) (fun h => by first | assumption | exact absurd (h : true = false) (by decide)) ?_
        rotate_left
        · intro w hSw; (try dsimp only at hSw); (try go_simp); (try with_reducible rfl)
        try simp only [Act.put, List.setIfInBounds_toArray, List.set_cons_zero, List.set_cons_succ]
        refine until_two (i := 2) (j := 6) rfl rfl (by kernel_rfl) (by rfl) (by rfl) ?_ ?_
        · intro K' hK
          refine wp_buildOne 73 66 _ rfl (ptCells P) rfl Tryd.underlying73 hbP (by rw [ptCells_len P hPl]; decide) (by rw [ptCells_len P hPl]; decide) ?_
          have q5 := At.alloc_new X0 66 (ptCells P).toArray
          have p5m : m < X0.heap.size := by have := tg.a3.lt; omega
          have tg := tg.keep (Fr.alloc [] X0 (.cells (ptCells P).toArray 66))
          generalize X0.heap.size = p5 at q5 p5m ⊢
          generalize X0.alloc (.cells (ptCells P).toArray 66) = Y1 at tg q5 ⊢
          have s0 := And.intro (ldP _ tg.a2) (ldK _ tg.a3)
          refine hK _ _ s0 (fun _ => trivial) ?_
          clear hK
          refine until_two (i := 3) (j := 6) rfl rfl (by kernel_rfl) (by rfl) (by rfl) ?_ ?_
          · intro K' hK
            refine wp_append_own _ _ _ _ rfl (B + 1) 66 iP _ 33 33 Tryd.underlying73 hiP zP0 zP1 zP2 rfl (by decide) _ i _ rfl tg.r5 ⟨p5, 0, none⟩ 1 1 (ptCells P) rfl ?_ ?_ ?_ ?_ ?_ ?_ ?_
            case refine_1 => rw [ptCells_len P hPl]
            case refine_2 => intro j u hj; rw [addr_add', Nat.zero_add]; exact (q5.cell j).trans hj
            case refine_3 => exact ptC_one P
            case refine_4 => simp [maxLen]; omega
            case refine_5 => omega
            case refine_6 => have := tg.a0.lt; omega
            intro v' Y2 r' gr _
            have tg := tg.grow5 h5 gr r'
            have s0 := And.intro (ldP _ tg.a2) (ldK _ tg.a3)
            refine hK _ _ s0 (fun _ => trivial) ?_
            clear hK
            refine until_sole 6 rfl (by kernel_rfl) (by rfl) ?_
            intro K' hK
            refine wp_buildOne 92 69 _ rfl (kinCells k) rfl Tryd.underlying92 hbK (by show _ < 2; decide) (by show 2 ≤ _; decide) ?_
            have q6 := At.alloc_new Y2 69 (kinCells k).toArray
            have p6m : m < Y2.heap.size := by have := tg.a3.lt; omega
            have tg := tg.keep (Fr.alloc [] Y2 (.cells (kinCells k).toArray 69))
            generalize Y2.heap.size = p6 at q6 p6m ⊢
            generalize Y2.alloc (.cells (kinCells k).toArray 69) = Y3 at tg q6 ⊢
            have s0 := And.intro (ldP _ tg.a2) (ldK _ tg.a3)
            refine hK _ _ s0 (fun _ => trivial) ?_
            clear hK
            refine until_sole 7 rfl (by kernel_rfl) (by rfl) ?_
            intro K' hK
            refine wp_append_own _ _ _ _ rfl (B + 1) 69 iK _ 2 24 Tryd.underlying92 hiK zK0 zK1 zK2 rfl (by decide) _ i _ rfl tg.r6 ⟨p6, 0, none⟩ 1 1 (kinCells k) rfl ?_ ?_ ?_ ?_ ?_ ?_ ?_
            case refine_1 => rfl
            case refine_2 => intro j u hj; rw [addr_add', Nat.zero_add]; exact (q6.cell j).trans hj
            case refine_3 => exact kinC_one' k
            case refine_4 => simp [maxLen]; omega
            case refine_5 => omega
            case refine_6 => have := tg.a0.lt; omega
            intro v' Y4 r' gr _
            have tg := tg.grow6 h6 gr r'
            have s0 := And.intro (ldP _ tg.a2) (ldK _ tg.a3)
            refine hK _ _ s0 (fun _ => trivial) ?_
            clear hK
            refine until_s0 8 (v := ?_) rfl (by kernel_rfl) (fun _ _ _ h => h) (Or.inl ⟨by rfl, ?_⟩) (by assumption) (fun h => by first | assumption | exact absurd (h : true = false) (by decide)) ?_
            rotate_left
            · intro w hSw; (try dsimp only at hSw); (try go_simp); (try with_reducible rfl)
            try simp only [Act.put, List.setIfInBounds_toArray, List.set_cons_zero, List.set_cons_succ]
            refine until_s0 9 (v := ?_) rfl (by kernel_rfl) (fun _ _ _ h => h) (Or.inl ⟨by rfl, ?_⟩) (by assumption) (fun h => by first | assumption | exact absurd (h : true = false) (by decide)) ?_
            rotate_left
            · intro w hSw; (try dsimp only at hSw); (try go_simp); (try with_reducible rfl)
            try simp only [Act.put, List.setIfInBounds_toArray, List.set_cons_zero, List.set_cons_succ]
            refine until_done (by kernel_rfl) ?_ _
            go_wp2_with fail
            exact ⟨⟨i + 1, by omega, by simp, HH.out.1, by rw [HH.out.2.1]; exact tg.r5, by rw [HH.out.2.2]; exact tg.r6, tg.a0, tg.hF⟩, by simp only [intOf]; omega⟩
          · intro K' hK
            refine wp_buildOne 92 69 _ rfl (kinCells k) rfl Tryd.underlying92 hbK (by show _ < 2; decide) (by show 2 ≤ _; decide) ?_
            have q6 := At.alloc_new Y1 69 (kinCells k).toArray
            have p6m : m < Y1.heap.size := by have := tg.a3.lt; omega
            have tg := tg.keep (Fr.alloc [] Y1 (.cells (kinCells k).toArray 69))
            have q5 := q5.alloc (.cells (kinCells k).toArray 69)
            generalize Y1.heap.size = p6 at q6 p6m ⊢
            generalize Y1.alloc (.cells (kinCells k).toArray 69) = Y5 at tg q6 q5 ⊢
            have s0 := And.intro (ldP _ tg.a2) (ldK _ tg.a3)
            refine hK _ _ s0 (fun _ => trivial) ?_
            clear hK
            refine until_sole 3 rfl (by kernel_rfl) (by rfl) ?_
            intro K' hK
            refine wp_append_own _ _ _ _ rfl (B + 1) 66 iP _ 33 33 Tryd.underlying73 hiP zP0 zP1 zP2 rfl (by decide) _ i _ rfl tg.r5 ⟨p5, 0, none⟩ 1 1 (ptCells P) rfl ?_ ?_ ?_ ?_ ?_ ?_ ?_
            case refine_1 => rw [ptCells_len P hPl]
            case refine_2 => intro j u hj; rw [addr_add', Nat.zero_add]; exact (q5.cell j).trans hj
            case refine_3 => exact ptC_one P
            case refine_4 => simp [maxLen]; omega
            case refine_5 => omega
            case refine_6 => have := tg.a0.lt; omega
            intro v' Y6 r' gr _
            have q6 := At.grown q6 gr (fun b hb => (h5 b hb).2) (by omega)
            have tg := tg.grow5 h5 gr r'
            have s0 := And.intro (ldP _ tg.a2) (ldK _ tg.a3)
            refine hK _ _ s0 (fun _ => trivial) ?_
            clear hK
            refine until_sole 7 rfl (by kernel_rfl) (by rfl) ?_
            intro K' hK
            refine wp_append_own _ _ _ _ rfl (B + 1) 69 iK _ 2 24 Tryd.underlying92 hiK zK0 zK1 zK2 rfl (by decide) _ i _ rfl tg.r6 ⟨p6, 0, none⟩ 1 1 (kinCells k) rfl ?_ ?_ ?_ ?_ ?_ ?_ ?_
            case refine_1 => rfl
            case refine_2 => intro j u hj; rw [addr_add', Nat.zero_add]; exact (q6.cell j).trans hj
            case refine_3 => exact kinC_one' k
            case refine_4 => simp [maxLen]; omega
            case refine_5 => omega
            case refine_6 => have := tg.a0.lt; omega
            intro v' Y7 r' gr _
            have tg := tg.grow6 h6 gr r'
            have s0 := And.intro (ldP _ tg.a2) (ldK _ tg.a3)
            refine hK _ _ s0 (fun _ => trivial) ?_
            clear hK
            refine until_s0 8 (v := ?_) rfl (by kernel_rfl) (fun _ _ _ h => h) (Or.inl ⟨by rfl, ?_⟩) (by assumption) (fun h => by first | assumption | exact absurd (h : true = false) (by decide)) ?_
            rotate_left
            · intro w hSw; (try dsimp only at hSw); (try go_simp); (try with_reducible rfl)
            try simp only [Act.put, List.setIfInBounds_toArray, List.set_cons_zero, List.set_cons_succ]
            refine until_s0 9 (v := ?_) rfl (by kernel_rfl) (fun _ _ _ h => h) (Or.inl ⟨by rfl, ?_⟩) (by assumption) (fun h => by first | assumption | exact absurd (h : true = false) (by decide)) ?_
            rotate_left
            · intro w hSw; (try dsimp only at hSw); (try go_simp); (try with_reducible rfl)
            try simp only [Act.put, List.setIfInBounds_toArray, List.set_cons_zero, List.set_cons_succ]
            refine until_done (by kernel_rfl) ?_ _
            go_wp2_with fail
            exact ⟨⟨i + 1, by omega, by simp, HH.out.1, by rw [HH.out.2.1]; exact tg.r5, by rw [HH.out.2.2]; exact tg.r6, tg.a0, tg.hF⟩, by simp only [intOf]; omega⟩
        · intro K' hK
          refine wp_buildOne 92 69 _ rfl (kinCells k) rfl Tryd.underlying92 hbK (by show _ < 2; decide) (by show 2 ≤ _; decide) ?_
          have q6 := At.alloc_new X0 69 (kinCells k).toArray
          have p6m : m < X0.heap.size := by have := tg.a3.lt; omega
          have tg := tg.keep (Fr.alloc [] X0 (.cells (kinCells k).toArray 69))
          generalize X0.heap.size = p6 at q6 p6m ⊢
          generalize X0.alloc (.cells (kinCells k).toArray 69) = Y8 at tg q6 ⊢
          have s0 := And.intro (ldP _ tg.a2) (ldK _ tg.a3)
          refine hK _ _ s0 (fun _ => trivial) ?_
          clear hK
          refine until_sole 2 rfl (by kernel_rfl) (by rfl) ?_
          intro K' hK
          refine wp_buildOne 73 66 _ rfl (ptCells P) rfl Tryd.underlying73 hbP (by rw [ptCells_len P hPl]; decide) (by rw [ptCells_len P hPl]; decide) ?_
          have q5 := At.alloc_new Y8 66 (ptCells P).toArray
          have p5m : m < Y8.heap.size := by have := tg.a3.lt; omega
          have tg := tg.keep (Fr.alloc [] Y8 (.cells (ptCells P).toArray 66))
          have q6 := q6.alloc (.cells (ptCells P).toArray 66)
          generalize Y8.heap.size = p5 at q5 p5m ⊢
          generalize Y8.alloc (.cells (ptCells P).toArray 66) = Y9 at tg q5 q6 ⊢
          have s0 := And.intro (ldP _ tg.a2) (ldK _ tg.a3)
          refine hK _ _ s0 (fun _ => trivial) ?_
          clear hK
          refine until_sole 3 rfl (by kernel_rfl) (by rfl) ?_
          intro K' hK
          refine wp_append_own _ _ _ _ rfl (B + 1) 66 iP _ 33 33 Tryd.underlying73 hiP zP0 zP1 zP2 rfl (by decide) _ i _ rfl tg.r5 ⟨p5, 0, none⟩ 1 1 (ptCells P) rfl ?_ ?_ ?_ ?_ ?_ ?_ ?_
          case refine_1 => rw [ptCells_len P hPl]
          case refine_2 => intro j u hj; rw [addr_add', Nat.zero_add]; exact (q5.cell j).trans hj
          case refine_3 => exact ptC_one P
          case refine_4 => simp [maxLen]; omega
          case refine_5 => omega
          case refine_6 => have := tg.a0.lt; omega
          intro v' Y10 r' gr _
          have q6 := At.grown q6 gr (fun b hb => (h5 b hb).2) (by omega)
          have tg := tg.grow5 h5 gr r'
          have s0 := And.intro (ldP _ tg.a2) (ldK _ tg.a3)
          refine hK _ _ s0 (fun _ => trivial) ?_
          clear hK
          refine until_sole 7 rfl (by kernel_rfl) (by rfl) ?_
          intro K' hK
          refine wp_append_own _ _ _ _ rfl (B + 1) 69 iK _ 2 24 Tryd.underlying92 hiK zK0 zK1 zK2 rfl (by decide) _ i _ rfl tg.r6 ⟨p6, 0, none⟩ 1 1 (kinCells k) rfl ?_ ?_ ?_ ?_ ?_ ?_ ?_
          case refine_1 => rfl
          case refine_2 => intro j u hj; rw [addr_add', Nat.zero_add]; exact (q6.cell j).trans hj
          case refine_3 => exact kinC_one' k
          case refine_4 => simp [maxLen]; omega
          case refine_5 => omega
          case refine_6 => have := tg.a0.lt; omega
          intro v' Y11 r' gr _
          have tg := tg.grow6 h6 gr r'
          have s0 := And.intro (ldP _ tg.a2) (ldK _ tg.a3)
          refine hK _ _ s0 (fun _ => trivial) ?_
          clear hK
          refine until_s0 8 (v := ?_) rfl (by kernel_rfl) (fun _ _ _ h => h) (Or.inl ⟨by rfl, ?_⟩) (by assumption) (fun h => by first | assumption | exact absurd (h : true = false) (by decide)) ?_
          rotate_left
          · intro w hSw; (try dsimp only at hSw); (try go_simp); (try with_reducible rfl)
          try simp only [Act.put, List.setIfInBounds_toArray, List.set_cons_zero, List.set_cons_succ]
          refine until_s0 9 (v := ?_) rfl (by kernel_rfl) (fun _ _ _ h => h) (Or.inl ⟨by rfl, ?_⟩) (by assumption) (fun h => by first | assumption | exact absurd (h : true = false) (by decide)) ?_
          rotate_left
          · intro w hSw; (try dsimp only at hSw); (try go_simp); (try with_reducible rfl)
          try simp only [Act.put, List.setIfInBounds_toArray, List.set_cons_zero, List.set_cons_succ]
          refine until_done (by kernel_rfl) ?_ _
          go_wp2_with fail
          exact ⟨⟨i + 1, by omega, by simp, HH.out.1, by rw [HH.out.2.1]; exact tg.r5, by rw [HH.out.2.2]; exact tg.r6, tg.a0, tg.hF⟩, by simp only [intOf]; omega⟩
      · have cR := fun w h1 h2 => read_any s w h1 h2
        unfold readV at cR
        rw [if_neg hE] at cR
        have hb := badE_take ps i s hok hs hE
        have ht : togE ps = isE s.data.toList := by unfold togE; rw [if_neg (by rw [hb]; exact hE), hb]
        obtain ⟨E, hEE⟩ : ∃ E, E = isE s.data.toList := ⟨_, rfl⟩
        rw [← hEE] at cR ht hE
        have HT := Lib.hid ht
        have b1 : (E != 0) = true := by simp [hE]
        have HE := Lib.hid hE
        rw [hB] at A0
        have hBw := A0.lt
        clear hb ht hEE hE hok hs r5 r6
        go_upto_region 7 with (first
          | (go_at_call 48; refine (cR _ (hI.keep hF) (hR.keep hF (by simp))).mono ?_; clear cR; rintro e w1 ⟨rfl, f1⟩; have hF := hF.trans f1; have A0 := f1.keep A0 (by simp); have hBw := A0.lt; have A2 := (At.alloc_new w1 66 (List.replicate 33 (Value.int .u8 0)).toArray).alloc (.cells #[.int .i64 0, .string ⟨#[]⟩] 69); have A3 := At.alloc_new2 w1 (.cells (List.replicate 33 (Value.int .u8 0)).toArray 66) 69 #[.int .i64 0, .string ⟨#[]⟩])
          | (rw [lit33]; refine wpList_store_row rfl _ _ _ rfl _ _ rfl rfl _ _ A2.out hi1 rfl point0_all ?_)
          | refine wpList_store_row rfl _ _ _ rfl _ _ rfl rfl _ _ (A3.setRow_other (show w1.heap.size + 1 ≠ w1.heap.size by omega) (List.replicate 33 (Value.int .u8 0)).toArray).out hi2 rfl (kin_one 0 ⟨#[]⟩) ?_
          | fail)
        rw [lit33]
        have f6 : Fr [w1.heap.size, w1.heap.size + 1] w1 ((((w1.alloc (.cells (List.replicate 33 (Value.int .u8 0)).toArray 66)).alloc (.cells #[.int .i64 0, .string ⟨#[]⟩] 69)).setRow w1.heap.size (List.replicate 33 (Value.int .u8 0)).toArray).setRow (w1.heap.size + 1) #[.int .i64 0, .string ⟨#[]⟩]) :=
          (((Fr.alloc _ _ _).trans (Fr.alloc _ _ _)).trans (Fr.setRow _ _ w1.heap.size _ (.inl (by simp)))).trans (Fr.setRow _ _ (w1.heap.size + 1) _ (.inl (by simp)))
        have A0 := f6.keep A0 (by simp; omega)
        have hF := hF.new f6 (by intro x hx; simp at hx; omega)
        generalize ((((w1.alloc (.cells (List.replicate 33 (Value.int .u8 0)).toArray 66)).alloc (.cells #[.int .i64 0, .string ⟨#[]⟩] 69)).setRow w1.heap.size (List.replicate 33 (Value.int .u8 0)).toArray).setRow (w1.heap.size + 1) #[.int .i64 0, .string ⟨#[]⟩]) = W7 at A0 hF ⊢
        go_wp2_with (first
          | refine wpList_store_row rfl _ _ _ rfl _ _ rfl rfl _ _ A0.out hi2 rfl (kin_one 0 ⟨#[]⟩) ?_
          | fail)
        have A0' := A0.setRow #[.int .i64 0, .string ⟨#[]⟩]
        rw [HT.out]
        exact ⟨rfl, _, results_scs rfl _ _ w.heap.size _ _ _ _ rfl A0'.out Tryd.underlying69 rfl hi2, hF.new (S := [w.heap.size]) (Fr.setRow _ _ _ _ (.inl (by simp))) (by simp), _, _, rfl, fun _ => ⟨rfl, rfl⟩, fun h => absurd h HE.out⟩
    · obtain rfl : i = ps.length := by omega
      rw [List.take_length] at r5 r6
      have hbad : badE ps = 0 := badE_all ps (fun j t ht => hok j t (by
        rcases Nat.lt_or_ge j ps.length with h | h
        · exact h
        · rw [List.getElem?_eq_none h] at ht; cases ht) ht)
      have hall : ∀ s ∈ ps, isE s.data.toList = 0 := fun s hs => by
        obtain ⟨j, hj, rfl⟩ := List.getElem_of_mem hs
        exact hok j _ hj (List.getElem?_eq_getElem hj)
      have hl5 : ∀ s ∈ ps, (ptCells (ptO s)).length = 33 := fun s hs => ptCells_len _ (by
        have := (isE_parts _ (hall s hs)).1
        show (valD s.data.toList).length = 32
        simp [valD] at this ⊢; omega)
      have hl6 : ∀ s ∈ ps, (kinCells (kinO s)).length = 2 := fun s hs => rfl
      obtain ⟨ad5, c5, rfl, hp5⟩ : ∃ ad c, u5 = .slice ad ps.length c ∧ (0 < ps.length → ∃ g, ad = some ⟨g, 0, none⟩) := by
        rcases ownsRow_forms r5 with ⟨rfl, h⟩ | ⟨g, c, rfl⟩
        · exact ⟨none, 0, by rw [h], fun h' => by omega⟩
        · exact ⟨_, c, rfl, fun _ => ⟨g, rfl⟩⟩
      obtain ⟨ad6, c6, rfl, hp6⟩ : ∃ ad c, u6 = .slice ad ps.length c ∧ (0 < ps.length → ∃ g, ad = some ⟨g, 0, none⟩) := by
        rcases ownsRow_forms r6 with ⟨rfl, h⟩ | ⟨g, c, rfl⟩
        · exact ⟨none, 0, by rw [h], fun h' => by omega⟩
        · exact ⟨_, c, rfl, fun _ => ⟨g, rfl⟩⟩
      rw [hB] at A0
      have HA := Lib.hid (And.intro hbad (And.intro hall hok))
      clear hbad hall hok
      go_wp2_with fail
      go_loopw [13, 44] (fun _ v wr => ∃ i : Nat, i ≤ ps.length ∧ v = .int .i64 i ∧ (∀ j s t, j < i → ps[j]? = some s → ps[0]? = some t → kinO s = kinO t) ∧ wr.ownsRow (B + 1) 66 33 (.slice ad5 ps.length c5) ps.length (ptsC ps) ∧ wr.ownsRow (B + 1) 69 2 (.slice ad6 ps.length c6) ps.length (kinsC ps) ∧ At wr w.heap.size 69 [.int .i64 0, .string ⟨#[]⟩] ∧ Fr [] w wr) (fun _ v _ => ps.length - (intOf v).toNat)
      case atStart => exact ⟨0, by omega, rfl, fun j s t hj => by omega, r5, r6, A0, hF⟩
      case round =>
        clear r5 r6 A0 hF
        obtain ⟨i, hi, rfl, hkin, r5, r6, A0, hF⟩ := hrel
        by_cases hl : i < ps.length
        · have l1 : (i : Int) < ps.length := by omega
          have l0 : (0 : Int) < ps.length := by omega
          have l0' : 0 < ps.length := by omega
          obtain ⟨g6, rfl⟩ := hp6 (by omega)
          obtain ⟨s, hs⟩ : ∃ s, ps[i]? = some s := ⟨_, List.getElem?_eq_getElem hl⟩
          obtain ⟨t, ht⟩ : ∃ t, ps[0]? = some t := ⟨_, List.getElem?_eq_getElem (by omega)⟩
          have hrg : ∀ (w' : World) (k : Nat) (u : ByteArray), w'.ownsRow (B + 1) 69 2 (.slice (some ⟨g6, 0, none⟩) ps.length c6) ps.length (kinsC ps) → ps[k]? = some u → w'.rangeAt g6 (k * 2) (kinCells (kinO u)) := fun w' k u hr hu j v hv => by
            have hj : j < 2 := by
              rcases Nat.lt_or_ge j 2 with h | h
              · exact h
              · rw [List.getElem?_eq_none h] at hv; cases hv
            have := hr.cells rfl (k * 2 + j) v (by unfold kinsC; rw [flat_get ps k j u hl6 hu hj]; exact hv)
            rw [addr_add', Nat.zero_add] at this
            exact this
          have hr1 := fun (w' : World) hr => hrg w' i s hr hs
          have hr0 := fun (w' : World) hr => hrg w' 0 t hr ht
          clear hrg
          obtain ⟨k, hk⟩ : ∃ k, k = kinO s := ⟨_, rfl⟩
          obtain ⟨k0, hk0⟩ : ∃ k, k = kinO t := ⟨_, rfl⟩
          rw [← hk] at hr1
          rw [← hk0] at hr0
          have HK := Lib.hid (And.intro hs (And.intro ht (And.intro hk hk0)))
          clear hs ht hk hk0
          have A3 := At.alloc_new wr 69 #[.int .i64 0, .string ⟨#[]⟩]
          go_upto_region 14 with (first
            | refine wpList_load_mid rfl _ _ rfl g6 (i * 2) rfl (kinCells k) _ (hr1 _ r6) Tryd.underlying69 rfl hi2 ?_
            | refine wpList_store_row rfl _ _ _ rfl _ _ rfl rfl _ _ A3.out hi2 rfl (kinC_one k) ?_
            | fail)
          try simp only [Act.put]
          obtain ⟨m, hm⟩ : ∃ m, m = wr.heap.size := ⟨_, rfl⟩
          rw [← hm] at A3 ⊢
          have hlt0 := A0.lt
          have f6 : Fr [m] wr ((wr.alloc (.cells #[.int .i64 0, .string ⟨#[]⟩] 69)).setRow m (kinCells k).toArray) := (Fr.alloc _ _ _).trans (Fr.setRow _ _ m _ (.inl (by simp)))
          have A3 := A3.setRow (kinCells k).toArray
          have A0 := f6.keep A0 (by simp; omega)
          have r5 := own_fr r5 f6 (fun g hg => by have := r5.lt g hg; simp; omega)
          have r6 := own_fr r6 f6 (fun g hg => by have := r6.lt g hg; simp; omega)
          have hF := hF.new f6 (by simp; omega)
          generalize (wr.alloc (.cells #[.int .i64 0, .string ⟨#[]⟩] 69)).setRow m (kinCells k).toArray = W2 at A0 A3 r5 r6 hF ⊢
          clear f6 hm hlt0
          have ld3 : (loadVar 69 ⟨m, 0, none⟩).run Tryd.prog W2.drew = .ok (.agg (kinCells k).toArray) W2.drew := run_loadVar_row W2.drew m 69 69 (kinCells k).toArray _ _ A3.drew.out Tryd.underlying69 rfl hi2
          have ld0 : (loadVar 69 ⟨g6, 0, none⟩).run Tryd.prog W2.drew = .ok (.agg (kinCells k0).toArray) W2.drew := run_loadVar_mid (P := Tryd.prog) W2.drew g6 0 69 (kinCells k0) _ (by have := hr0 _ (own_fr r6 (Fr.drew [] W2) (by simp)); rw [Nat.zero_mul] at this; exact this) Tryd.underlying69 rfl hi2
          refine wp_region_until (fun w' => (loadVar 69 ⟨m, 0, none⟩).run Tryd.prog w' = .ok (.agg (kinCells k).toArray) w' ∧ (loadVar 69 ⟨g6, 0, none⟩).run Tryd.prog w' = .ok (.agg (kinCells k0).toArray) w') (fun _ => True) 1000 (by rfl) ?_
          have hTT : True := trivial
          have s0 := And.intro ld3 ld0
          refine until_s0 0 (v := .agg (kinCells k).toArray) rfl (by kernel_rfl) (fun _ _ _ h => h) (Or.inl ⟨by rfl, fun w' hS => exec_load rfl rfl hS.1⟩) (by assumption) (fun h => by first | assumption | exact absurd (h : true = false) (by decide)) ?_
          simp only [Act.put, List.setIfInBounds_toArray, List.set_cons_zero, List.set_cons_succ]
          refine until_s0 1 (v := ?_) rfl (by kernel_rfl) (fun _ _ _ h => h) (Or.inl ⟨by rfl, ?_⟩) (by assumption) (fun h => by first | assumption | exact absurd (h : true = false) (by decide)) ?_
          rotate_left
          · intro w hSw; (try dsimp only at hSw); (try go_simp); (try with_reducible rfl)
          try simp only [Act.put, List.setIfInBounds_toArray, List.set_cons_zero, List.set_cons_succ]
          refine until_s0 2 (v := ?_) rfl (by kernel_rfl) (fun _ _ _ h => h) (Or.inl ⟨by rfl, ?_⟩) (by assumption) (fun h => by first | assumption | exact absurd (h : true = false) (by decide)) ?_
          rotate_left
          · intro w hSw; (try dsimp only at hSw); (try go_simp); (try with_reducible rfl)
          try simp only [Act.put, List.setIfInBounds_toArray, List.set_cons_zero, List.set_cons_succ]
          refine until_s0 3 (v := .agg (kinCells k0).toArray) rfl (by kernel_rfl) (fun _ _ _ h => h) (Or.inl ⟨by rfl, fun w' hS => exec_load rfl rfl hS.2⟩) (by assumption) (fun h => by first | assumption | exact absurd (h : true = false) (by decide)) ?_
          simp only [Act.put, List.setIfInBounds_toArray, List.set_cons_zero, List.set_cons_succ]
          have x0 : (kinCells k)[0]? = some (.int .i64 k.1) := rfl
          have x1 : (kinCells k)[1]? = some (.string k.2) := rfl
          have y0 : (kinCells k0)[0]? = some (.int .i64 k0.1) := rfl
          have y1 : (kinCells k0)[1]? = some (.string k0.2) := rfl
          by_cases hkk : k = k0
          · have z0 : ((k.1 : Int) == k0.1) = true := by rw [hkk]; exact beq_self_eq_true _
            have z1 := str_eq (congrArg Prod.snd hkk)
            have HKK := Lib.hid hkk
            clear hkk
            refine until_sole 4 rfl (by kernel_rfl) (by rfl) ?_
            intro K' hK
            go_simp
            refine hK _ _ s0 (fun _ => trivial) ?_
            clear hK
            skip
            refine until_done (by kernel_rfl) ?_ _
            clear s0 ld3 ld0
            go_wp2_with fail
            refine ⟨⟨i + 1, by omega, by simp, fun j s' t' hj h1 h2 => ?_, own_fr r5 (Fr.drew [] _) (by simp), own_fr r6 (Fr.drew [] _) (by simp), A0.drew, hF.trans (Fr.drew _ _)⟩, by simp only [intOf]; omega⟩
            by_cases hj2 : j = i
            · subst hj2
              obtain ⟨e1, e2, e3, e4⟩ := HK.out
              rw [e1] at h1; rw [e2] at h2
              cases h1; cases h2
              rw [← e3, ← e4, HKK.out]
            · exact hkin j s' t' (by omega) h1 h2
          · have ht : togE ps = 260 := by
              unfold togE
              rw [if_pos HA.out.1, if_neg]
              intro h
              obtain ⟨e1, e2, e3, e4⟩ := HK.out
              exact hkk (by rw [e3, e4]; exact h _ (List.mem_of_getElem? e1) _ (List.mem_of_getElem? e2))
            have HT := Lib.hid ht
            have hz : ((k.1 : Int) == k0.1) = false ∨ ((k.1 : Int) == k0.1) = true ∧ (k.2.toList == k0.2.toList) = false := by
              by_cases h1 : k.1 = k0.1
              · exact .inr ⟨by rw [h1]; exact beq_self_eq_true _, str_neq (fun h2 => hkk (Prod.ext h1 h2))⟩
              · exact .inl (by rw [beq_eq_false_iff_ne]; omega)
            clear ht hkk
            rcases hz with z0 | ⟨z0, z1⟩ <;>
            · refine until_sole 4 rfl (by kernel_rfl) (by rfl) ?_
              intro K' hK
              go_simp
              refine hK _ _ s0 (fun _ => trivial) ?_
              clear hK
              refine until_done (by kernel_rfl) ?_ _
              have A0 := A0.drew
              go_wp2_with (first
                | refine wpList_store_row rfl _ _ _ rfl _ _ rfl rfl _ _ A0.out hi2 rfl (kin_one 0 ⟨#[]⟩) ?_
                | fail)
              have A0' := A0.setRow #[.int .i64 0, .string ⟨#[]⟩]
              rw [HT.out]
              exact ⟨rfl, _, results_scs rfl _ _ w.heap.size _ _ _ _ rfl A0'.out Tryd.underlying69 rfl hi2, (hF.trans (Fr.drew _ _)).new (S := [w.heap.size]) (Fr.setRow _ _ _ _ (.inl (by simp))) (by simp), _, _, rfl, fun _ => ⟨rfl, rfl⟩, fun h => absurd h (by decide)⟩
        · obtain rfl : i = ps.length := by omega
          have hkall : ∀ s ∈ ps, ∀ t ∈ ps, kinO s = kinO t := fun s hs t ht => by
            obtain ⟨a, ha, rfl⟩ := List.getElem_of_mem hs
            obtain ⟨b, hb, rfl⟩ := List.getElem_of_mem ht
            have e0 := List.getElem?_eq_getElem (show 0 < ps.length by omega)
            rw [hkin a _ _ ha (List.getElem?_eq_getElem ha) e0, hkin b _ _ hb (List.getElem?_eq_getElem hb) e0]
          have HKA := Lib.hid hkall
          clear hkall hkin
          have hsq := A0.lt
          have h5q := fun g hg => (r5.lt g hg).2
          have h6q := fun g hg => (r6.lt g hg).2
          have S0 := At.alloc_new wr 95 (seenL []).toArray
          rw [List.toList_toArray] at S0
          have A0 := A0.alloc (.cells (seenL []).toArray 95)
          have r5 := own_fr r5 (Fr.alloc [] wr (.cells (seenL []).toArray 95)) (by simp)
          have r6 := own_fr r6 (Fr.alloc [] wr (.cells (seenL []).toArray 95)) (by simp)
          have hF := hF.trans (Fr.alloc [] wr (.cells (seenL []).toArray 95))
          go_wp2_with fail
          rw [show (#[Value.int IntKind.i64 0, Value.int IntKind.i64 0, Value.int IntKind.i64 0, Value.int IntKind.i64 0, Value.int IntKind.i64 0, Value.int IntKind.i64 0, Value.int IntKind.i64 0, Value.int IntKind.i64 0, Value.int IntKind.i64 0, Value.int IntKind.i64 0, Value.int IntKind.i64 0, Value.int IntKind.i64 0, Value.int IntKind.i64 0, Value.int IntKind.i64 0, Value.int IntKind.i64 0, Value.int IntKind.i64 0, Value.int IntKind.i64 0] : Array Value) = (seenL []).toArray from rfl]
          obtain ⟨sq, hq⟩ : ∃ sq, sq = wr.heap.size := ⟨_, rfl⟩
          rw [← hq] at S0 hsq h5q h6q ⊢
          generalize wr.alloc (.cells (seenL []).toArray 95) = W3 at S0 A0 r5 r6 hF ⊢
          clear hq
          go_loopw [16, 57] (fun _ v wr => ∃ i : Nat, i ≤ ps.length ∧ v = .int .i64 i ∧ ((xsOf (ps.map ptO)).take i).Nodup ∧ At wr sq 95 (seenL ((xsOf (ps.map ptO)).take i)) ∧ wr.ownsRow (B + 1) 66 33 (.slice ad5 ps.length c5) ps.length (ptsC ps) ∧ wr.ownsRow (B + 1) 69 2 (.slice ad6 ps.length c6) ps.length (kinsC ps) ∧ At wr w.heap.size 69 [.int .i64 0, .string ⟨#[]⟩] ∧ Fr [] w wr) (fun _ v _ => ps.length - (intOf v).toNat)
          case atStart => exact ⟨0, by omega, rfl, by simp, S0, r5, r6, A0, hF⟩
          case round =>
            clear S0 r5 r6 A0 hF
            obtain ⟨i, hi, rfl, hnd, S0, r5, r6, A0, hF⟩ := hrel
            by_cases hl : i < ps.length
            · have l1 : (i : Int) < ps.length := by omega
              obtain ⟨g5, rfl⟩ := hp5 (by omega)
              obtain ⟨s, hs⟩ : ∃ s, ps[i]? = some s := ⟨_, List.getElem?_eq_getElem hl⟩
              obtain ⟨P, hP⟩ : ∃ P, P = ptO s := ⟨_, rfl⟩
              have hsm := List.mem_of_getElem? hs
              have hPl : (ptCells P).length = 33 := by rw [hP]; exact hl5 s hsm
              have hx17 : P.1.toNat < 17 := by
                have := isE_parts _ (HA.out.2.1 s hsm)
                rw [hP]; show (s.data.toList.getD 1 0).toNat < 17; omega
              have hrg : ∀ w' : World, w'.ownsRow (B + 1) 66 33 (.slice (some ⟨g5, 0, none⟩) ps.length c5) ps.length (ptsC ps) → w'.rangeAt g5 (i * 33) (ptCells P) := fun w' hr j v hv => by
                have hj : j < 33 := by
                  rcases Nat.lt_or_ge j 33 with h | h
                  · exact h
                  · rw [List.getElem?_eq_none (by omega)] at hv; cases hv
                have := hr.cells rfl (i * 33 + j) v (by unfold ptsC; rw [flat_get ps i j s hl5 hs hj, ← hP]; exact hv)
                rw [addr_add', Nat.zero_add] at this
                exact this
              have hi3 : (Tryd.prog.info? 66).map (·.size) = some (ptCells P).length := by rw [hi1, hPl]
              have hi3' : (Tryd.prog.info? 66).map (·.size) = some (ptCells P).toArray.size := by rw [hi1, List.size_toArray, hPl]
              have hold : (List.replicate 33 (Value.int .u8 0)).toArray.size = (ptCells P).toArray.size := by rw [List.size_toArray, List.size_toArray, hPl]; rfl
              have htk : (xsOf (ps.map ptO)).take (i + 1) = (xsOf (ps.map ptO)).take i ++ [P.1] := by
                rw [List.take_add_one]; simp [xsOf, hs, hP]
              have A3 := At.alloc_new wr 66 (List.replicate 33 (Value.int .u8 0)).toArray
              obtain ⟨m, hm⟩ : ∃ m, m = wr.heap.size := ⟨_, rfl⟩
              rw [← hm] at A3
              have hsm' : sq < m := by have := S0.lt; omega
              have hHT := Lib.hid (And.intro htk (And.intro hs hP))
              clear htk hs hP hPl hsm
              go_upto_region 21 with (first
                | refine wpList_load_mid rfl _ _ rfl g5 (i * 33) rfl (ptCells P) _ (hrg _ r5) Tryd.underlying66 rfl hi3 ?_
                | (rw [lit33, ← hm]; refine wpList_store_row rfl _ _ _ rfl _ _ rfl rfl _ _ A3.out hi3' hold (ptCells_one _) ?_)
                | fail)
              try simp only [Act.put]
              have f6 : Fr [m] wr ((wr.alloc (.cells (List.replicate 33 (Value.int .u8 0)).toArray 66)).setRow m (ptCells P).toArray) := (Fr.alloc _ _ _).trans (Fr.setRow _ _ m _ (.inl (by simp)))
              have A3 := A3.setRow (ptCells P).toArray
              have A0 := f6.keep A0 (by simp; omega)
              have S0 := f6.keep S0 (by simp; omega)
              have r5 := own_fr r5 f6 (fun g hg => by have := r5.lt g hg; simp; omega)
              have r6 := own_fr r6 f6 (fun g hg => by have := r6.lt g hg; simp; omega)
              have hF := hF.new f6 (by simp; omega)
              generalize (wr.alloc (.cells (List.replicate 33 (Value.int .u8 0)).toArray 66)).setRow m (ptCells P).toArray = W4 at A0 A3 S0 r5 r6 hF ⊢
              clear f6 hm hrg hold
              rw [List.toList_toArray] at A3
              have p0 : W4.cell? ⟨m, 0, none⟩ = some (.int .u8 (bt P.1)) := A3.cell 0
              obtain ⟨x, hx⟩ : ∃ x, x = P.1 := ⟨_, rfl⟩
              rw [← hx] at p0 hx17
              have bb1 : (0 : Int) ≤ bt x := by unfold bt; omega
              have bb2 : bt x < 17 := by unfold bt; omega
              have bb3 : (bt x).toNat = x.toNat := by unfold bt; omega
              have HX := Lib.hid hx
              clear hx
              have l17 : (x.toNat : Int) < 17 := by omega
              have q0 : W4.cell? ⟨sq, x.toNat, none⟩ = some (.int .i64 (if x ∈ (xsOf (ps.map ptO)).take i then 1 else 0)) := by rw [S0.cell]; exact seenL_get _ _ hx17
              have fz := S0.frozen x.toNat
              by_cases hin : x ∈ (xsOf (ps.map ptO)).take i
              · rw [if_pos hin] at q0
                have HIN := Lib.hid hin
                clear hin
                have ht : togE ps = 261 := by
                  unfold togE
                  rw [if_pos HA.out.1, if_pos HKA.out, if_neg]
                  intro h
                  have h2 : ((xsOf (ps.map ptO)).take (i + 1)).Nodup := h.sublist (List.take_sublist _ _)
                  rw [hHT.out.1, List.nodup_append] at h2
                  exact h2.2.2 x HIN.out P.1 (by simp) HX.out
                have HT := Lib.hid ht
                clear ht
                have A0s := A0.setCell_other (a := ⟨sq, x.toNat, none⟩) (show w.heap.size ≠ sq by omega) (.int .i64 2)
                have f7 : Fr [sq] W4 (W4.setCell ⟨sq, x.toNat, none⟩ (.int .i64 2)) := Fr.setCell _ _ _ _ (.inl (by simp))
                have hF := hF.new f7 (by simp; omega)
                clear f7
                go_wp2_with (first
                  | refine wpList_store_row rfl _ _ _ rfl _ _ rfl rfl _ _ A0s.out hi2 rfl (kin_one 0 ⟨#[]⟩) ?_
                  | fail)
                have A0' := A0s.setRow #[.int .i64 0, .string ⟨#[]⟩]
                rw [HT.out]
                exact ⟨rfl, _, results_scs rfl _ _ w.heap.size _ _ _ _ rfl A0'.out Tryd.underlying69 rfl hi2, hF.new (S := [w.heap.size]) (Fr.setRow _ _ _ _ (.inl (by simp))) (by simp), _, _, rfl, fun _ => ⟨rfl, rfl⟩, fun h => absurd h (by decide)⟩
              · rw [if_neg hin] at q0
                have HIN := Lib.hid hin
                clear hin
                go_wp2_with fail
                have f7 : Fr [sq] W4 (W4.setCell ⟨sq, x.toNat, none⟩ (.int .i64 1)) := Fr.setCell _ _ _ _ (.inl (by simp))
                have S1 := S0.setCell x.toNat (.int .i64 1)
                rw [seenL_set _ _ hx17, HX.out, ← hHT.out.1] at S1
                refine ⟨⟨i + 1, by omega, by simp, ?_, ?_, own_fr r5 f7 (fun g hg => by have := h5q g hg; simp; omega), own_fr r6 f7 (fun g hg => by have := h6q g hg; simp; omega), f7.keep A0 (by simp; omega), hF.new f7 (by simp; omega)⟩, by simp only [intOf]; omega⟩
                · rw [hHT.out.1, List.nodup_append]
                  refine ⟨hnd, by simp, fun a ha b hb => ?_⟩
                  simp at hb
                  rw [hb, ← HX.out]
                  rintro rfl
                  exact HIN.out ha
                · rw [HX.out]; exact S1
            · obtain rfl : i = ps.length := by omega
              have hnd2 : (xsOf (ps.map ptO)).Nodup := by rw [List.take_of_length_le (by simp [xsOf])] at hnd; exact hnd
              have ht : togE ps = 0 := by unfold togE; rw [if_pos HA.out.1, if_pos HKA.out, if_pos hnd2]
              have HT := Lib.hid ht
              clear ht hnd hnd2 S0
              by_cases hz : ps.length = 0
              · have b1 : ((ps.length : Int) == 0) = true := by simp [hz]
                have HZ := Lib.hid (List.eq_nil_of_length_eq_zero hz)
                clear hz
                go_wp2_with (first
                  | refine wpList_store_row rfl _ _ _ rfl _ _ rfl rfl _ _ A0.out hi2 rfl (kin_one 0 ⟨#[]⟩) ?_
                  | fail)
                have A0' := A0.setRow #[.int .i64 0, .string ⟨#[]⟩]
                rw [HT.out]
                exact ⟨rfl, _, results_scs rfl _ _ w.heap.size _ _ _ _ rfl A0'.out Tryd.underlying69 rfl hi2, hF.new (S := [w.heap.size]) (Fr.setRow _ _ _ _ (.inl (by simp))) (by simp), _, _, rfl, fun h => absurd rfl h, fun _ => ⟨by rw [HZ.out]; exact World.ownsRow_nil _ _ _ _, fun _ => rfl, fun s hs => by rw [HZ.out] at hs; cases hs⟩⟩
              · have b1 : ((ps.length : Int) == 0) = false := by rw [beq_eq_false_iff_ne]; omega
                have l0 : (0 : Int) < ps.length := by omega
                have l0' : 0 < ps.length := by omega
                obtain ⟨g6, rfl⟩ := hp6 (by omega)
                obtain ⟨t, ht⟩ : ∃ t, ps[0]? = some t := ⟨_, List.getElem?_eq_getElem (by omega)⟩
                have hr0 : ∀ w' : World, w'.ownsRow (B + 1) 69 2 (.slice (some ⟨g6, 0, none⟩) ps.length c6) ps.length (kinsC ps) → w'.rangeAt g6 0 (kinCells (kinO t)) := fun w' hr j v hv => by
                  have hj : j < 2 := by
                    rcases Nat.lt_or_ge j 2 with h | h
                    · exact h
                    · rw [List.getElem?_eq_none h] at hv; cases hv
                  have := hr.cells rfl (0 * 2 + j) v (by unfold kinsC; rw [flat_get ps 0 j t hl6 ht hj]; exact hv)
                  rw [addr_add', Nat.zero_add, Nat.zero_mul] at this
                  exact this
                obtain ⟨k, hk⟩ : ∃ k, k = kinO t := ⟨_, rfl⟩
                rw [← hk] at hr0
                have HK := Lib.hid (And.intro ht hk)
                clear ht hk
                have hg6 : w.heap.size ≠ g6 := by have := (r6.lt g6 rfl).1; omega
                have hg5 : ∀ g, (Value.slice ad5 ps.length c5).ownBlock = some g → w.heap.size ≠ g := fun g hg => by have := (r5.lt g hg).1; omega
                clear hz
                go_upto_region 27 with fail
                refine wp_region_until (fun w' => (loadVar 69 ⟨g6, 0, none⟩).run Tryd.prog w' = .ok (.agg (kinCells k).toArray) w') (fun _ => True) 1000 (by rfl) ?_
                have hTT : True := trivial
                have f7 : Fr [w.heap.size] wr (wr.setRow w.heap.size (kinCells k).toArray).drew := (Fr.setRow _ _ _ _ (.inl (by simp))).trans (Fr.drew _ _)
                have A0e := (A0.setRow (kinCells k).toArray).drew
                have r5e := own_fr r5 f7 (fun g hg => by have := hg5 g hg; simp; omega)
                have hFe := hF.new f7 (by simp)
                have r6 := own_fr r6 (Fr.drew [] _) (by simp)
                have r5 := own_fr r5 (Fr.drew [] _) (by simp)
                have A0 := A0.drew
                have s0 := run_loadVar_mid (P := Tryd.prog) _ g6 0 69 (kinCells k) _ (hr0 _ r6) Tryd.underlying69 rfl hi2
                refine until_s0 0 (v := ?_) rfl (by kernel_rfl) (fun _ _ _ h => h) (Or.inl ⟨by rfl, ?_⟩) (by assumption) (fun h => by first | assumption | exact absurd (h : true = false) (by decide)) ?_
                rotate_left
                · intro w hSw; (try dsimp only at hSw); (try go_simp); (try with_reducible rfl)
                try simp only [Act.put, List.setIfInBounds_toArray, List.set_cons_zero, List.set_cons_succ]
                refine until_s0 1 (v := ?_) rfl (by kernel_rfl) (fun _ _ _ h => h) (Or.inl ⟨by rfl, ?_⟩) (by assumption) (fun h => by first | assumption | exact absurd (h : true = false) (by decide)) ?_
                rotate_left
                · intro w hSw; (try dsimp only at hSw); (try go_simp); (try with_reducible rfl)
                try simp only [Act.put, List.setIfInBounds_toArray, List.set_cons_zero, List.set_cons_succ]
                refine until_s0 2 (v := ?_) rfl (by kernel_rfl) (fun _ _ _ h => h) (Or.inl ⟨by rfl, ?_⟩) (by assumption) (fun h => by first | assumption | exact absurd (h : true = false) (by decide)) ?_
                rotate_left
                · intro w hSw; (try dsimp only at hSw); (try go_simp); (try with_reducible rfl)
                try simp only [Act.put, List.setIfInBounds_toArray, List.set_cons_zero, List.set_cons_succ]
                refine until_s0 4 (v := ?_) rfl (by kernel_rfl) (fun _ _ _ h => h) (Or.inl ⟨by rfl, ?_⟩) (by assumption) (fun h => by first | assumption | exact absurd (h : true = false) (by decide)) ?_
                rotate_left
                · intro w hSw; (try dsimp only at hSw); (try go_simp); (try with_reducible rfl)
                try simp only [Act.put, List.setIfInBounds_toArray, List.set_cons_zero, List.set_cons_succ]
                refine until_s0 3 (v := .agg (kinCells k).toArray) rfl (by kernel_rfl) (fun _ _ _ h => h) (Or.inl ⟨by rfl, fun w' hS => exec_load rfl rfl hS⟩) (by assumption) (fun h => by first | assumption | exact absurd (h : true = false) (by decide)) ?_
                simp only [Act.put, List.setIfInBounds_toArray, List.set_cons_zero, List.set_cons_succ]
                skip
                refine until_sole 5 rfl (by kernel_rfl) (by rfl) ?_
                intro K' hK
                refine wp_store_row 69 _ _ rfl w.heap.size (kinCells k).toArray rfl rfl _ _ A0.out hi2 rfl (kinC_one k) ?_
                have r6s := own_fr r6 (Fr.setRow [w.heap.size] wr.drew w.heap.size (kinCells k).toArray (.inl (by simp))) (fun g hg => by
                  have : g6 = g := by simpa [Value.ownBlock] using hg
                  simp; omega)
                have s1 := run_loadVar_mid (P := Tryd.prog) _ g6 0 69 (kinCells k) _ (hr0 _ r6s) Tryd.underlying69 rfl hi2
                refine hK _ _ s1 (fun _ => trivial) ?_
                clear hK s0
                refine until_s0 6 (v := ?_) rfl (by kernel_rfl) (fun _ _ _ h => h) (Or.inl ⟨by rfl, ?_⟩) (by assumption) (fun h => by first | assumption | exact absurd (h : true = false) (by decide)) ?_
                rotate_left
                · intro w hSw; (try dsimp only at hSw); (try go_simp); (try with_reducible rfl)
                try simp only [Act.put, List.setIfInBounds_toArray, List.set_cons_zero, List.set_cons_succ]
                refine until_done (by kernel_rfl) ?_ _
                go_wp2_with fail
                rw [HT.out]
                have hps0 : ps[0] = t := by
                  have := HK.out.1
                  rw [List.getElem?_eq_getElem l0'] at this
                  exact Option.some.inj this
                refine ⟨rfl, _, results_scs rfl _ _ w.heap.size _ _ _ _ rfl A0e.out Tryd.underlying69 rfl hi2, hFe, _, _, rfl, fun h => absurd rfl h, fun _ => ⟨own_base r5e (by omega), ?_, ?_⟩⟩
                · intro h; rw [h] at l0'; simp at l0'
                · rw [hps0, ← HK.out.2]
end Go.Proofs.YtffhfmaphjjffaaDoor
