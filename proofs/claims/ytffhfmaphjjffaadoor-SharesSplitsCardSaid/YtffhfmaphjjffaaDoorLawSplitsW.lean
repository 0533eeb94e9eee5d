/- The law SharesSplits walked. -/
import Derived.Test.YtffhfmaphjjffaaDoorApart
import Derived.Test.YtffhfmaphjjffaaDoorShrLawA
import Derived.Test.YtffhfmaphjjffaaDoorUntil
namespace Go.Proofs.YtffhfmaphjjffaaDoor
open Go.RowKit Go.Lib Go.Joins Base Gf
set_option linter.unusedVariables false
set_option linter.unusedSimpArgs false

theorem FullT.texts {w : World} {ad : Option Addr} {n c : Nat} {ps : List ByteArray} (h : FullT w (.slice ad n c) ps) : Texts w ad ps := by
  rcases h with ⟨h1, rfl⟩ | ⟨g, h1, hA⟩
  · intro j s hj; simp at hj
  · simp only [Value.slice.injEq] at h1
    obtain ⟨rfl, _, _⟩ := h1
    intro j s hj
    exact ⟨g, 0, rfl, by rw [Nat.zero_add, hA.cell, tcells, List.getElem?_map, hj]; rfl⟩
/-- Whatever the arguments: the program's Split and the document's give the same texts and the same number; the program's list is full and new. -/
theorem both_all (master coins id : ByteArray) (n k : Int) : ∃ (ps : List ByteArray) (E : Int), ps.length ≤ 16 ∧
    (∀ w, First w → Roots w → Calls Tryd.prog 11 #[.string master, .int .i64 n, .int .i64 k, .string id, .string coins] w fun e w' => ∃ ad, e = .returned (.tuple #[.slice ad ps.length ps.length, .int .i64 E]) ∧ (∀ g, (Value.slice ad ps.length ps.length).ownBlock = some g → w.heap.size ≤ g ∧ g < w'.heap.size) ∧ FullT w' (.slice ad ps.length ps.length) ps ∧ Fr [] w w') ∧
    (∀ w, Powers w → RefRoots w → Calls Tryd.prog 12 #[.string master, .int .i64 n, .int .i64 k, .string id, .string coins] w fun e w' => ∃ ad c, e = .returned (.tuple #[.slice ad ps.length c, .int .i64 E]) ∧ (∀ g o, ad = some ⟨g, o, none⟩ → w.heap.size ≤ g ∧ g < w'.heap.size) ∧ Texts w' ad ps ∧ Fr [] w w') := by
  rcases splitS_cases master.size id.size coins.size n k with ⟨E, h⟩ | ⟨h1, h2, N, K, rfl, rfl, h3, h4, h5, h6⟩
  · refine ⟨[], E, by simp, fun w _ _ => (split_bad master coins id n k E h w).mono ?_, fun w _ _ => (rsplit_bad master coins id n k E h w).mono ?_⟩
    · rintro e w' ⟨rfl, rfl⟩
      exact ⟨none, rfl, (fun g hg => by cases hg), .inl ⟨rfl, rfl⟩, Fr.refl _ _⟩
    · rintro e w' ⟨rfl, rfl⟩
      exact ⟨none, 0, rfl, (fun g o e => by cases e), (fun j s hj => by simp at hj), Fr.refl _ _⟩
  · refine ⟨splitB master.data.toList id.data.toList coins.data.toList N K, 0, by rw [splitB_len]; exact h5, fun w hI hR => (split_any master id coins N K h1 h2 h3 h4 h5 h6 w hI hR).mono ?_, fun w hP hQ => (rsplit_any master coins id N K h1 h2 h3 h4 h5 h6 w hP hQ).mono ?_⟩
    · rintro e w' ⟨g, rfl, hg, hA, hF⟩
      refine ⟨some ⟨g, 0, none⟩, by rw [splitB_len], fun g' hg' => ?_, .inr ⟨g, rfl, hA⟩, hF⟩
      have : g = g' := by simpa [Value.ownBlock] using hg'
      subst this
      exact ⟨hg, hA.lt⟩
    · rintro e w' ⟨v, rfl, hr, hF⟩
      rcases ownsRow_forms hr with ⟨rfl, h00⟩ | ⟨g, c, rfl⟩
      · omega
      · refine ⟨some ⟨g, 0, none⟩, c, by rw [splitB_len], fun g' o e => by cases e; exact hr.lt g rfl, fun j s hj => ⟨g, 0, rfl, ?_⟩, hF⟩
        have := hr.cells rfl j (.string s) (by rw [tcells, List.getElem?_map, hj]; rfl)
        rw [addr_add'] at this
        exact this
def V4 (a b c d : Value) : Nat → Value := fun j => if j = 0 then a else if j = 1 then b else if j = 2 then c else d
def P4 (a b c d : List ByteArray) : Nat → List ByteArray := fun j => if j = 0 then a else if j = 1 then b else if j = 2 then c else d
theorem four_cases {p : Nat → Prop} (h0 : p 0) (h1 : p 1) (h2 : p 2) (h3 : p 3) : ∀ j, j < 4 → p j := by
  intro j hj
  have : j = 0 ∨ j = 1 ∨ j = 2 ∨ j = 3 := by omega
  rcases this with rfl | rfl | rfl | rfl <;> assumption
/-- Four lists that lie behind one another. -/
theorem AL.of {w : World} {gl : Nat} (V : Nat → Value) (lo : Nat → Nat) (h : ∀ j, j < 4 → ∀ g, (V j).ownBlock = some g → lo j ≤ g ∧ g < lo (j + 1)) (m : ∀ j, j < 4 → lo j ≤ lo (j + 1)) (hg : lo 4 ≤ gl) (hw : gl < w.heap.size) :
    ∃ S, AL w S gl V ∧ ∀ x, x ∈ S → lo 0 ≤ x ∧ ∃ j, j < 4 ∧ (V j).ownBlock = some x := by
  have mm : ∀ i j, i ≤ j → j ≤ 4 → lo i ≤ lo j := by
    intro i j hij
    induction hij with
    | refl => intro _; exact Nat.le_refl _
    | @step j _ ih => intro hj; exact Nat.le_trans (ih (by omega)) (m j (by omega))
  have hS : ∀ x, x ∈ (List.range 4).filterMap (fun j => (V j).ownBlock) → ∃ j, j < 4 ∧ (V j).ownBlock = some x := by
    intro x hx
    obtain ⟨j, hj, e⟩ := List.mem_filterMap.1 hx
    exact ⟨j, List.mem_range.1 hj, e⟩
  have hb : ∀ j g, j < 4 → (V j).ownBlock = some g → lo 0 ≤ g ∧ g < gl := by
    intro j g hj e
    obtain ⟨a, b⟩ := h j hj g e
    have := mm 0 j (by omega) (by omega)
    have := mm (j + 1) 4 (by omega) (by omega)
    omega
  refine ⟨(List.range 4).filterMap (fun j => (V j).ownBlock), ⟨fun j g hj e => ?_, ⟨hw, fun hx => ?_⟩, fun i j g hi hj hij e1 e2 => ?_, fun g hx => ?_⟩, fun x hx => ?_⟩
  · have := hb j g hj e
    exact ⟨List.mem_filterMap.2 ⟨j, List.mem_range.2 hj, e⟩, by omega, by omega⟩
  · obtain ⟨j, hj, e⟩ := hS _ hx
    have := hb j gl hj e
    omega
  · have a := h i hi g e1
    have b := h j hj g e2
    rcases Nat.lt_or_gt_of_ne hij with h' | h'
    · have := mm (i + 1) j (by omega) (by omega); omega
    · have := mm (j + 1) i (by omega) (by omega); omega
  · obtain ⟨j, hj, e⟩ := hS _ hx
    have := hb j g hj e
    omega
  · obtain ⟨j, hj, e⟩ := hS _ hx
    exact ⟨(hb j x hj e).1, j, hj, e⟩
theorem Texts.keepS {w w' : World} {S : List Nat} {ad : Option Addr} {ps : List ByteArray} (h : Texts w ad ps) (f : Fr S w w') (hS : ∀ g o, ad = some ⟨g, o, none⟩ → g ∉ S) : Texts w' ad ps := by
  intro j s hj
  obtain ⟨g, o, e, hc⟩ := h j s hj
  refine ⟨g, o, e, ?_⟩
  rw [← hc]
  have hb : g < w.heap.size := by
    rcases Nat.lt_or_ge g w.heap.size with h' | h'
    · exact h'
    · simp only [World.cell?, Array.getElem?_eq_none h'] at hc; cases hc
  simp only [World.cell?]
  rw [f.block _ hb (hS g o e)]
theorem fr_roots {w w' : World} (h : Roots w) (hF : Fr [] w w') : Roots w' := h.keep hF (by simp)
set_option maxRecDepth 100000 in
set_option maxHeartbeats 4000000 in
theorem splits_law {w : World} (master : ByteArray) (hm : master.size ≤ 140737488351232) (n : Int) (hn : (Lit.int .i64 n).wf = true) (k : Int) (hk : (Lit.int .i64 k).wf = true) (id : ByteArray) (hid : id.size ≤ 140737488351232) (coins : ByteArray) (hc : coins.size ≤ 140737488351232) (hQ : RefRoots w) (hP : Powers w) (hI : First w) (hR : Roots w) :
    Calls Tryd.prog 3 #[.string master, .int .i64 n, .int .i64 k, .string id, .string coins] w fun e w' => e = .returned (.bool true) ∧ Fr [] w w' := by
  obtain ⟨ps, E, hps, cA, cB⟩ := both_all master coins id n k
  obtain ⟨qs, E2, hqs, cC, _⟩ := both_all coins master id n k
  have cS := fun (ad1 ad2 : Option Addr) (c1 c2 : Nat) (w : World) (h1 : Texts w ad1 ps) (h2 : Texts w ad2 ps) => sameTexts26_any ps ad1 ad2 c1 c2 (by omega) w h1 h2
  have hF := Fr.refl [] w
  have mk1 : True := trivial
  have mk2 : True := trivial
  clear hm hn hk hid hc
  go_enter Tryd.func3, Tryd.ntmps3
  go_wp2_with fail
  go_upto_region 8 with (first
    | (go_at_call 11; clear mk1; refine (cA _ (hI.keep hF) (fr_roots hR hF)).mono ?_; rintro e w1 ⟨a1, rfl, b1, t1, f1⟩; have hF := hF.trans f1)
    | (go_at_call 12; refine (cB _ (hP.keep hF) (hQ.keep hF)).mono ?_; clear cB; rintro e w2 ⟨am, cm, rfl, bm, tm, f2⟩; have hF := hF.trans f2)
    | (go_at_call 13; refine (num26_any _ _).mono ?_; rintro _ w3 ⟨rfl, rfl⟩)
    | (go_at_call 14; refine (cS a1 am _ _ _ (t1.keep f2 (by simp)).texts tm).mono ?_; rintro e w4 ⟨rfl, f4⟩; have hF := hF.trans f4; have t1 := t1.keep (f2.trans f4) (by simp); have tm := tm.keep f4; have mk3 : True := trivial)
    | (go_at_call 11; clear mk3; refine (cA _ (hI.keep hF) (fr_roots hR hF)).mono ?_; rintro e w5 ⟨a5, rfl, b5, t5, f5⟩; have hF := hF.trans f5; have t1 := t1.keep f5 (by simp); have tm := tm.keep f5; have mk6 : True := trivial)
    | (go_at_call 11; clear mk6; refine (cC _ (hI.keep hF) (fr_roots hR hF)).mono ?_; clear cC; rintro e w6 ⟨a6, rfl, b6, t6, f6⟩; have hF := hF.trans f6; have t1 := t1.keep f6 (by simp); have tm := tm.keep f6; have t5 := t5.keep f6 (by simp); have mk7 : True := trivial)
    | (go_at_call 11; clear mk7; refine (cA _ (hI.keep hF) (fr_roots hR hF)).mono ?_; rintro e w7 ⟨a7, rfl, b7, t7, f7⟩; have hF := hF.trans f7; have t1 := t1.keep f7 (by simp); have tm := tm.keep f7; have t5 := t5.keep f7 (by simp); have t6 := t6.keep f7 (by simp))
    | fail)
  have mkA : True := trivial
  have hF0 : w.heap.size ≤ w1.heap.size := f1.size
  have zs := And.intro f1.size (And.intro f2.size (And.intro f4.size (And.intro f5.size (And.intro f6.size f7.size))))
  have mk8 : True := trivial
  have mk9 : True := trivial
  clear f1 f2 f4 f5 f6 f7
  try simp only [Act.put]
  go_upto_region 10 with (first
    | (go_at_call 14; clear mk8; refine (cS a1 am _ _ _ t1.texts tm).mono ?_; rintro e w8 ⟨rfl, f8⟩; have hF := hF.trans f8; have tm := tm.keep f8)
    | (go_at_call 14; clear mk9; refine (cS a5 am _ _ _ (t5.keep f8 (by simp)).texts tm).mono ?_; rintro e w9 ⟨rfl, f9⟩; have hF := hF.trans f9; have tm := tm.keep f9)
    | (go_at_call 14; refine (cS a7 am _ _ _ (t7.keep (f8.trans f9) (by simp)).texts tm).mono ?_; rintro e w10 ⟨rfl, f10⟩; have hF := hF.trans f10; have tm := tm.keep f10; have t1 := t1.keep (f8.trans (f9.trans f10)) (by simp); have t5 := t5.keep (f8.trans (f9.trans f10)) (by simp); have t6 := t6.keep (f8.trans (f9.trans f10)) (by simp); have t7 := t7.keep (f8.trans (f9.trans f10)) (by simp); have f10 := f8.trans (f9.trans f10); clear f8 f9)
    | (go_at_call 15; clear mkA
       obtain ⟨S, hL, hS⟩ := AL.of (w := w10.alloc (.cells #[Value.slice a1 ps.length ps.length, Value.slice a5 ps.length ps.length, Value.slice a6 qs.length qs.length, Value.slice a7 ps.length ps.length] 22)) (gl := w10.heap.size) (V4 (.slice a1 ps.length ps.length) (.slice a5 ps.length ps.length) (.slice a6 qs.length qs.length) (.slice a7 ps.length ps.length)) (fun j => if j = 0 then w.heap.size else if j = 1 then w1.heap.size else if j = 2 then w5.heap.size else if j = 3 then w6.heap.size else w7.heap.size) (four_cases b1 (fun g hg => ⟨(by have := b5 g hg; show w1.heap.size ≤ g; omega), (b5 g hg).2⟩) b6 b7) (four_cases hF0 (by show w1.heap.size ≤ w5.heap.size; omega) (by show w5.heap.size ≤ w6.heap.size; omega) (by show w6.heap.size ≤ w7.heap.size; omega)) (by have := f10.size; show w7.heap.size ≤ w10.heap.size; omega) (by simp)
       refine (apart_any (V4 (.slice a1 ps.length ps.length) (.slice a5 ps.length ps.length) (.slice a6 qs.length qs.length) (.slice a7 ps.length ps.length)) (P4 ps ps qs ps) S _ _ _ hL (four_cases (t1.keep (Fr.alloc [] _ _) (by simp)) (t5.keep (Fr.alloc [] _ _) (by simp)) (t6.keep (Fr.alloc [] _ _) (by simp)) (t7.keep (Fr.alloc [] _ _) (by simp))) (four_cases hps hps hqs hps) (At.alloc_new _ _ _)).mono ?_
       rintro e w11 ⟨rfl, f11⟩
       have hF := (hF.trans (Fr.alloc [] _ _)).new f11 (fun x hx => (hS x hx).1)
       have tm := (tm.keep (Fr.alloc [] _ _)).keepS f11 (by
         intro g o e hg
         have hb := bm g o e
         obtain ⟨j, hj, e2⟩ := (hS g hg).2
         have : j = 0 ∨ j = 1 ∨ j = 2 ∨ j = 3 := by omega
         rcases this with rfl | rfl | rfl | rfl
         · have := b1 g e2; omega
         · have := b5 g e2; omega
         · have := b6 g e2; omega
         · have := b7 g e2; omega)
       clear hL hS t1 t5 t6 t7)
    | fail)
  clear zs f10 b1 b5 b6 b7 bm hF0
  try simp only [Act.put]
  go_wp2_with (first
    | (go_at_call 11; refine (cA _ (hI.keep hF) (fr_roots hR hF)).mono ?_; rintro e w12 ⟨a9, rfl, b9, t9, f9⟩; have hF := hF.trans f9; have tm := tm.keep f9)
    | (go_at_call 13; refine (num26_any _ _).mono ?_; rintro _ w13 ⟨rfl, rfl⟩)
    | (go_at_call 14; refine (cS a9 am _ _ _ t9.texts tm).mono ?_; rintro e w14 ⟨rfl, f14⟩; have hF := hF.trans f14)
    | fail)
  go_ret
  exact ⟨rfl, hF⟩
end Go.Proofs.YtffhfmaphjjffaaDoor
