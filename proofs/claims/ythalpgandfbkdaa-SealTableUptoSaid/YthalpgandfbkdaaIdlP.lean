/- Two ideal sealers beside one another: Seal, with the block where the rows lie. -/
import Derived.Test.YthalpgandfbkdaaIdlO
import Derived.Maps.AppendAt
namespace Go.Proofs.Ythalpgandfbkdaa
open Go.RowKit Go.Lib Go.Joins Base Go.Maps
set_option linter.unusedVariables false
set_option linter.unusedSimpArgs false

set_option maxRecDepth 100000 in
set_option maxHeartbeats 4000000 in
theorem seal_ok2 (k : Int) (hk : 1 ≤ k ∧ k ≤ 3) (base p b : Nat) (v : Value) (rs : List Rw) (F : ByteArray → Int) (x t c : ByteArray) (hx : x.size ≤ 64) (htc : t.size + 40 = c.size) (hc : c.size ≤ 1048576) (hn : rs.length ≤ 4194304) (hF : F (tagB c) = 0) (w : World)
    (hI : Idl w base p b v rs F) (hbase : base ≤ w.heap.size) :
    Calls Try.prog 10 #[.pointer (some ⟨p, 0, none⟩), .int .i64 k, .string x, .string t, .string c] w fun e w' => ∃ v', e = .returned (.tuple #[.string c, .int .i64 0]) ∧
      Idl w' base p b v' (rs ++ [(k, x, c, t)]) (fun y => if y = tagB c then ((rs.length + 1 : Nat) : Int) else F y) ∧ Fr (p :: b :: v.ownBlock.toList) w w' ∧ (v'.ownBlock = v.ownBlock ∨ ∃ h, v'.ownBlock = some h ∧ w.heap.size ≤ h) := by
  have hiS5 : (Try.prog.info? 64).map (fun i => (i.zero, i.size, i.bytes)) = some (some (.agg #[.int .i64 0, .string ByteArray.empty, .string ByteArray.empty, .string ByteArray.empty]), 4, 56) := by kernel_rfl
  obtain ⟨iS, hiS, zS0, zS1, zS2⟩ := info_parts hiS5
  have c1 := fun w' h => coins_any p t.size [v, .map (some b)] (by omega) w' h
  have c2 := fun w => seals_any k hk x t c hx (by omega) (by omega) w (t.size + 40) htc
  have c3 := fun w' h => fresh_any p b rs.length v F c (by omega) w' h
  rw [hF] at c3
  have c4 := fun w => tag_any c (by omega) hc w
  obtain ⟨G, hG⟩ : ∃ G : World → Prop, G = Fr [] w := ⟨_, rfl⟩
  have gW : ∀ w', G w' ↔ Fr [] w w' := fun w' => by rw [hG]
  clear hG
  have g2 : ∀ x : Gw G, Fr [] w x.w := fun x => (gW _).1 x.ok
  have hA' : ∀ x : Gw G, At x.w p 62 [v, .map (some b)] := fun x => (g2 x).keep hI.at_ (by simp)
  have hpa := fun x : Gw G => part0 (hA' x)
  have g1 : ∀ (x : Gw G) w', Fr [] x.w w' → G w' := fun x w' f => (gW _).2 ((g2 x).trans f)
  have g0 : G w.drew := (gW _).2 (Fr.drew _ _)
  have ne : Nonempty (Gw G) := ⟨⟨_, g0⟩⟩
  have tl := tag_len c (by omega)
  go_enter Try.func10, Try.ntmps10
  go_wp2_with fail
  refine wp_region_gw G (by kernel_rfl) (by kernel_rfl) g0 ?_
  repeat (go_big_quiet_step (first
    | (go_at_call 20; exact gw_call (c1 _ (hA' _)) (g1 _))
    | (go_at_call 23; exact gw_call (c2 _) (g1 _))))
  refine wpQuiet_nil ?_
  rintro _ ⟨w2, rfl⟩
  have f2 := g2 w2
  generalize w2.w = w2 at f2 ⊢
  clear hpa g1 g0 ne gW c1 c2 hA' g2
  have hrl := rwsC_len rs
  go_upto_region 8 with (first
    | (go_at_call 9; refine (c3 _ (f2.keep hI.at_ (by simp)) (hI.tab.fr f2 (by simp))).mono ?_; rintro e w3 ⟨rfl, f3⟩)
    | fail)
  have f23 := f2.trans f3
  have hI3 : Idl w3 base p b v rs F := hI.fr f23 (by simp) (by simp) (by simp)
  have hsz := f23.size
  clear c3 f2 f3
  have a0 := hI3.at_.cell 0
  have a1 := hI3.at_.cell 1
  have z0 := hI3.at_.frozen 1
  have z1 := hI3.at_.frozen 0
  have A6 := At.alloc_new w3 64 #[Value.int .i64 k, .string x, .string c, .string t]
  have hnp := hI3.not_p
  have hnb := hI3.not_b
  have hpb := hI3.pb
  go_upto_region 9 with (first
    | (at_builtin; refine wpList_append_own_at _ rfl _ _ _ rfl base 64 iS _ 4 56 Try.underlying34 hiS zS0 zS1 zS2 rfl (by decide) _ rs.length _ rfl (World.ownsRow.alloc hI3.row _) ⟨w3.heap.size, 0, none⟩ 1 1 (rwCells (k, x, c, t)) rfl rfl (by intro j u hj; rw [addr_add', Nat.zero_add]; exact (A6.cell j).trans hj) (rw_one _) (by simp [maxLen]; omega) (by omega) (by simp; omega) ?_; intro v4 w4 o4 gr4 _ ob4;
       have f4 : Fr v.ownBlock.toList w3 w4 := (Fr.alloc _ w3 _).trans (Fr.ofGrown gr4 (by intro k hk; have hk : v.ownBlock = some k := hk; rw [hk]; simp));
       obtain ⟨g4, k4, rfl⟩ := ownsRow_form o4 (by omega); have ob5 : some g4 = v.ownBlock ∨ ∃ h, some g4 = some h ∧ w.heap.size ≤ h := (ob4.imp (fun e => e) (fun e => ⟨_, e, by simp; omega⟩)); have A4 := f4.keep hI3.at_ hnp; have b0 := A4.cell 0; have y0 := A4.frozen 0)
    | fail)
  have T4 := hI3.tab.fr f4 hnb
  obtain ⟨m, hm⟩ : ∃ m, m = rs.length + 1 := ⟨_, rfl⟩
  rw [← hm] at o4 ⊢
  have AX := A4.setCell 0 (.slice (some ⟨g4, 0, none⟩) m k4)
  have fX : Fr [p] w4 (w4.setCell ⟨p, 0, none⟩ (.slice (some ⟨g4, 0, none⟩) m k4)) := Fr.setCell _ _ _ _ (.inl (by simp))
  have hg4 : g4 ≠ p := by
    rintro rfl
    obtain ⟨_, h' | ⟨g, cap, cur, hv, hb, hg, r⟩⟩ := o4
    · simp at h'
    · injection hv with e1 _ _; injection e1 with e1; injection e1 with e1
      have := A4.out.symm.trans (e1 ▸ hg)
      simp at this
  have hgb : g4 ≠ b := by
    rintro rfl
    obtain ⟨D, ⟨es, clock, hb2, _⟩, _⟩ := T4
    obtain ⟨_, h' | ⟨g, cap, cur, hv, hb, hg, r⟩⟩ := o4
    · simp at h'
    · injection hv with e1 _ _; injection e1 with e1; injection e1 with e1
      have := hb2.symm.trans (e1 ▸ hg)
      simp at this
  have oX := own_fr o4 fX (by intro g hg; injection hg with hg; subst hg; simp [hg4])
  have TX := T4.fr fX (by simp; exact hpb.symm)
  generalize w4.setCell ⟨p, 0, none⟩ (.slice (some ⟨g4, 0, none⟩) m k4) = X at AX fX oX TX ⊢
  obtain ⟨w6, hput, T6, f6⟩ := Tab.put (w := X.drew) (TX.fr (Fr.drew [] X) (by simp)) (tagB c) (by unfold maxLen; omega) (by unfold maxLen; omega) m (WalkArith.wf_i64 (by omega))
  have HM := Lib.hid hm
  have HOB := Lib.hid ob5
  clear ob4 ob5
  clear hm
  have AX1 : At X.drew p _ _ := AX
  have AX2 := f6.keep AX1 (by simp; exact hpb)
  have q0 := AX.cell 0
  have q1 := AX.cell 1
  have q2 := AX2.cell 0
  have q3 := AX2.cell 1
  go_region_held3 (fun w' => w'.cell? ⟨p, 0, none⟩ = some (.slice (some ⟨g4, 0, none⟩) m k4) ∧ w'.cell? ⟨p, 1, none⟩ = some (.map (some b))) (go_keep)
    (first | (go_at_call 11; refine (c4 _).mono ?_; rintro e w7 ⟨rfl, rfl⟩))
  have o6 := own_fr (own_fr oX (Fr.drew [] X) (by simp)) f6 (by intro g hg; injection hg with hg; subst hg; simp [hgb])
  have FA : Fr (p :: b :: v.ownBlock.toList) w w6 :=
    (f23.mono (by simp)).trans ((f4.mono (fun y hy _ => by simp [List.mem_cons, hy])).trans ((fX.mono (by simp)).trans ((Fr.drew _ X).trans (f6.mono (by simp)))))
  have hm := HM.out
  clear AX AX1 q0 q1 q2 q3 a0 a1 z0 z1 A6 hput c4 HM b0 y0
  go_wp2_with fail
  go_ret2
  refine ⟨_, rfl, ⟨AX2, ?_, ?_⟩, FA, HOB.out⟩
  · rw [List.length_append, List.length_singleton, ← hm, rwsC_app]; simpa [rwsC] using o6
  · rw [List.length_append, List.length_singleton, ← hm]; rw [hm]; exact hm ▸ T6
/-- Two sealers that do not touch one another. -/
structure Two (w : World) (base p b p2 b2 : Nat) (v v2 : Value) (rs rs2 : List Rw) (F F2 : ByteArray → Int) : Prop where
  i1 : Idl w base p b v rs F
  i2 : Idl w base p2 b2 v2 rs2 F2
  np : p ≠ p2
  nb : b ≠ b2
  nv : ∀ g ∈ v.ownBlock.toList, g ∉ v2.ownBlock.toList
theorem Idl.own_lt {w : World} {base p b : Nat} {v : Value} {rs : List Rw} {F} (h : Idl w base p b v rs F) : ∀ g ∈ v.ownBlock.toList, g < w.heap.size := by
  intro g hg
  obtain ⟨_, cur, hc⟩ := own_block h.row hg
  rcases Nat.lt_or_ge g w.heap.size with h' | h'
  · exact h'
  · rw [Array.getElem?_eq_none h'] at hc; cases hc
theorem Idl.map_at {w : World} {base p b : Nat} {v : Value} {rs : List Rw} {F} (h : Idl w base p b v rs F) {g : Nat} {T : TypeId} {cs : Array Value} {f : Nat × Nat} (hg : w.heap[g]? = some (.cells cs T f)) : g ≠ b := by
  rintro rfl
  obtain ⟨D, ⟨es, clock, hb2, _⟩, _⟩ := h.tab
  have := hg.symm.trans hb2
  simp at this
theorem at_own {w : World} {base p b g : Nat} {cs : List Value} {vr : Value} {rs : List Rw} {F} (h : At w g 62 cs) (hI : Idl w base p b vr rs F) : g ∉ vr.ownBlock.toList := by
  intro hg
  obtain ⟨_, cur, hb⟩ := own_block hI.row hg
  have := h.out.symm.trans hb
  simp at this
/-- What the first one changes leaves the second. -/
theorem Two.keep2 {w w' : World} {base p b p2 b2 : Nat} {v v2 : Value} {rs rs2 : List Rw} {F F2} (h : Two w base p b p2 b2 v v2 rs rs2 F F2) (f : Fr (p :: b :: v.ownBlock.toList) w w') : Idl w' base p2 b2 v2 rs2 F2 := by
  have a2 := at_own h.i2.at_ h.i1
  refine h.i2.fr f ?_ ?_ ?_
  · simp only [List.mem_cons, not_or]
    exact ⟨fun e => h.np e.symm, h.i1.map_at h.i2.at_.out, a2⟩
  · simp only [List.mem_cons, not_or]
    refine ⟨fun e => h.i2.map_at h.i1.at_.out e.symm, fun e => h.nb e.symm, fun hm => ?_⟩
    obtain ⟨_, cur, hc⟩ := own_block h.i1.row hm
    exact h.i2.map_at hc rfl
  · intro g hg
    obtain ⟨_, cur, hc⟩ := own_block h.i2.row hg
    simp only [List.mem_cons, not_or]
    refine ⟨?_, h.i1.map_at hc, fun hm => h.nv g hm hg⟩
    rintro rfl
    have := hc.symm.trans h.i1.at_.out
    simp at this
theorem Two.swap {w : World} {base p b p2 b2 : Nat} {v v2 : Value} {rs rs2 : List Rw} {F F2} (h : Two w base p b p2 b2 v v2 rs rs2 F F2) : Two w base p2 b2 p b v2 v rs2 rs F2 F :=
  ⟨h.i2, h.i1, fun e => h.np e.symm, fun e => h.nb e.symm, fun g h1 h2 => h.nv g h2 h1⟩
theorem Two.fr {w w' : World} {base p b p2 b2 : Nat} {v v2 : Value} {rs rs2 : List Rw} {F F2} (h : Two w base p b p2 b2 v v2 rs rs2 F F2) (f : Fr [] w w') : Two w' base p b p2 b2 v v2 rs rs2 F F2 :=
  ⟨h.i1.fr f (by simp) (by simp) (by simp), h.i2.fr f (by simp) (by simp) (by simp), h.np, h.nb, h.nv⟩
/-- After a Seal of the first. -/
theorem Two.sealed {w w' : World} {base p b p2 b2 : Nat} {v v2 v' : Value} {rs rs' rs2 : List Rw} {F F' F2} (h : Two w base p b p2 b2 v v2 rs rs2 F F2) (f : Fr (p :: b :: v.ownBlock.toList) w w') (hI : Idl w' base p b v' rs' F') (hv : v'.ownBlock = v.ownBlock ∨ ∃ g, v'.ownBlock = some g ∧ w.heap.size ≤ g) : Two w' base p b p2 b2 v' v2 rs' rs2 F' F2 := by
  refine ⟨hI, h.keep2 f, h.np, h.nb, fun g hg hg2 => ?_⟩
  rcases hv with e | ⟨g', e, hle⟩
  · rw [e] at hg
    exact h.nv g hg hg2
  · rw [e] at hg
    have : g = g' := by simpa using hg
    have := h.i2.own_lt g hg2
    omega
end Go.Proofs.Ythalpgandfbkdaa
