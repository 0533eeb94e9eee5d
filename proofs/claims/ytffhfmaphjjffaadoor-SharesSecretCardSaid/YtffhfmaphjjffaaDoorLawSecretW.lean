/- The law SharesSecret walked. -/
import Derived.Test.YtffhfmaphjjffaaDoorJnSecP
import Derived.Test.YtffhfmaphjjffaaDoorJnExpl
import Derived.Test.YtffhfmaphjjffaaDoorLawAnyW
import Derived.Test.YtffhfmaphjjffaaDoorUntil
namespace Go.Proofs.YtffhfmaphjjffaaDoor
open Go.RowKit Go.Lib Go.Joins Base
set_option linter.unusedVariables false
set_option linter.unusedSimpArgs false

/-- Explain of a list of one's own. -/
theorem explain_own (m : ByteArray) (ps : List ByteArray) {b n : Nat} {e : TypeId} {v : Value} (hn : ps.length ≤ 4194304) (R : List UInt8 × Int) (hJ : explV m.data.toList ps = R) (s : ByteArray) (hs : s.data.toList = R.1) (E : Int) (hE : E = R.2) (w : World) (hI : First w) (hR : Roots w) (h : w.ownsRow b e 1 v n (tcells ps)) :
    Calls Tryd.prog 25 #[.string m, v] w fun e w' => e = .returned (.tuple #[.string s, .int .i64 E]) ∧ Fr [] w w' := by
  obtain ⟨ad, c, rfl, rfl⟩ := own_val h
  have := explain_any m ps ad c hn w hI hR (Texts.ofOwn h)
  rw [hJ, ← hs, ← hE] at this
  rw [ba_list] at this
  exact this
theorem texts_own (ps : List ByteArray) {b n : Nat} {e : TypeId} {v : Value} (hn : ps.length ≤ 2097152) (w : World) (h : w.ownsRow b e 1 v n (tcells ps)) :
    Calls Tryd.prog 21 #[v] w fun e w' => ∃ v', e = .returned v' ∧ w'.ownsRow w.heap.size 9 1 v' ps.length (tcells ps) ∧ Fr [] w w' := by
  obtain ⟨ad, c, rfl, rfl⟩ := own_val h
  exact texts26_any ps ad c hn w (Texts.ofOwn h)
set_option maxRecDepth 100000 in
set_option maxHeartbeats 4000000 in
theorem secret_law {w : World} (v : Value) (x : CutV) (hv : IsCut v x) (vo : Value) (ns : List Int) (ho : IsInts w vo ns) (other : ByteArray) (hother : other.size ≤ 140737488351232) (hI : First w) (hR : Roots w) :
    Calls Tryd.prog 10 #[v, vo, .string other] w fun e w' => e = .returned (.bool true) ∧ Fr [] w w' := by
  have hi5 : (Tryd.prog.info? 9).map (fun i => (i.zero, i.size, i.bytes)) = some (some (.string ⟨#[]⟩), 1, 16) := by kernel_rfl
  obtain ⟨iT, hiT, zT0, zT1, zT2⟩ := info_parts hi5
  obtain ⟨rfl, h1, h2, h3, h4, h5⟩ := hv
  obtain ⟨m, n, k, i, c⟩ := x
  obtain ⟨ado, co, rfl, hO, hnl⟩ := ho
  have cR := fun w => right_any m i c n k h1 h2 h3 h4 h5 w
  have hsz : (Tryd.prog.info? 34).map (·.size) = some 5 := by kernel_rfl
  have hP := At.alloc_new w 34 #[.string m, .int .i64 n, .int .i64 k, .string i, .string c]
  have hF := Fr.alloc [] w (.cells #[.string m, .int .i64 n, .int .i64 k, .string i, .string c] 34)
  clear h1 h2 h3 h4 h5
  go_enter Tryd.func10, Tryd.ntmps10
  go_wp2_with fail
  obtain ⟨p, hp⟩ : ∃ p, p = w.heap.size := ⟨_, rfl⟩
  rw [← hp] at hP ⊢
  have hpw : w.heap.size ≤ p := by omega
  clear hp
  go_upto_region 2 with (first
    | refine wpList_load_row rfl _ _ rfl _ rfl _ _ _ _ hP.out Tryd.underlying34 rfl hsz ?_
    | (go_at_call 16; refine (cR _).mono ?_; clear cR; rintro e w1 ⟨m', i', c', N, K, rfl, hms, his, hK1, hKN, hN, hcs, f1⟩; have hP := f1.keep hP (by simp); have hF := hF.trans f1)
    | refine wpList_store_row rfl _ _ _ rfl _ _ rfl rfl _ _ hP.out hsz rfl (cut_one _ _ _ _ _) ?_
    | fail)
  have hP := hP.setRow #[Value.string m', .int .i64 N, .int .i64 K, .string i', .string c']
  have hF := hF.new (Fr.setRow [p] w1 p #[Value.string m', .int .i64 N, .int .i64 K, .string i', .string c'] (.inl (by simp))) (by simp; exact hpw)
  clear f1
  generalize w1.setRow p #[Value.string m', .int .i64 N, .int .i64 K, .string i', .string c'] = W1 at hP hF ⊢
  have hP : At W1 p 34 [.string m', .int .i64 N, .int .i64 K, .string i', .string c'] := hP
  obtain ⟨b0, b1, b2, b3, b4⟩ := split_facts m' i' c' N K hms his hK1 hKN hN hcs
  have s1 := fun w => csplit_any m' i' c' N K hms his hK1 hKN hN hcs w
  obtain ⟨L, hL⟩ : ∃ L, L = splitB m'.data.toList i'.data.toList c'.data.toList N K := ⟨_, rfl⟩
  rw [← hL] at b0 b1 b2 b3 b4 s1
  have HB := Lib.hid (And.intro b0 (And.intro b1 (And.intro b2 (And.intro b3 b4))))
  have cP : ∀ (g n : Nat) (hn : n ≤ N) (w' : World), Texts w' (some ⟨g, 0, none⟩) L → Ints w' ado ns → Calls Tryd.prog 28 #[.slice (some ⟨g, 0, none⟩) N N, .slice ado ns.length co, .int .i64 n] w' fun e w'' => ∃ v out, e = .returned v ∧ w''.ownsRow w'.heap.size 9 1 v n (tcells out) ∧ out.length = n ∧ Pick L out ∧ Fr [] w' w'' := fun g n hn w' h1 h2 => by
    have := picked_any L HB.out.2.1 (some ⟨g, 0, none⟩) N ns ado co (by omega) n (by have := HB.out.1; omega) (by have := HB.out.1; omega) w' h1 h2
    rw [HB.out.1] at this
    exact this
  have c0 : ∀ out, Pick L out → out.length ≤ N := fun out h => by
    obtain ⟨r, hp⟩ := h
    have := hp.length_eq
    rw [List.length_append, HB.out.1] at this
    omega
  have HC := Lib.hid c0
  have M2s : ∃ M2 : ByteArray, M2 = ⟨(sizedL other.data.toList 32).toArray⟩ := ⟨_, rfl⟩
  obtain ⟨M2, hM2⟩ := M2s
  have hM2s : M2.size = 32 := by rw [hM2]; show (sizedL _ _).toArray.size = 32; rw [List.size_toArray, sizedL_len]
  have cS := fun w => sized_any other 32 hother (by omega) w
  rw [← hM2] at cS
  have sf : ∀ out, Pick L out → out.length = K - 1 → ∃ cx : ByteArray, cx.size = 32 * (K - 1) ∧ explV M2.data.toList out = (cx.data.toList, 0) ∧ explV m'.data.toList out = (c'.data.toList, 0) ∧ ∀ s ∈ out, s ∈ splitB M2.data.toList i'.data.toList cx.data.toList N K := fun out hp ho => by
    rw [hL] at hp
    obtain ⟨cx, h1, h2, h3, h4⟩ := secret_facts (m2 := M2.data.toList) hK1 hKN hN (by rw [ba_len]; exact hms) (by rw [ba_len]; exact his) (by rw [ba_len]; exact hcs) (by rw [ba_len]; exact hM2s) hp ho
    exact ⟨⟨cx.toArray⟩, by show cx.toArray.size = _; rw [List.size_toArray, h1], h2, h3, h4⟩
  have HC := Lib.hid c0
  have HSF := Lib.hid (And.intro sf (And.intro hM2s (And.intro his hcs)))
  have hwr : IntKind.i64.wrap ((K : Int) - 1) = ((K - 1 : Nat) : Int) := by rw [IntWalk.i64_in _ (by omega)]; omega
  clear hms his hcs hL b0 b1 b2 b3 b4 c0 hM2 hM2s sf hother
  go_upto_region 3 with (first
    | refine wpList_load_row rfl _ _ rfl _ rfl _ _ _ _ hP.out Tryd.underlying34 rfl hsz ?_
    | (go_at_call 19; refine (s1 _ (hI.keep hF) (hR.keep hF (by simp))).mono ?_; clear s1; rintro e w2 ⟨g, rfl, hg, hA, f2⟩; have hP := f2.keep hP (by simp); have hF := hF.trans f2)
    | fail)
  have q2 := hP.cell 2
  have c1 := fun h => cP g (K - 1) h w2 (Texts.ofAt hA) (hO.keep hF)
  go_upto_region 6 with (first
    | (go_at_call 28; refine (c1 (by omega)).mono ?_; clear c1; rintro e w4 ⟨v4, out, rfl, o4, hol, hpk, f4⟩; have hP := f4.keep hP (by simp); have hF := hF.trans f4)
    | fail)
  obtain ⟨cx, x1, x2, x3, x4⟩ := HSF.out.1 out hpk hol
  have hlen := HC.out out hpk
  have HX := Lib.hid (And.intro x1 (And.intro x2 (And.intro x3 (And.intro x4 hol))))
  clear x1 x2 x3 x4 hol hpk f2 f4 q2 hA
  have hQ := At.alloc_new w4 34 #[Value.string ⟨#[]⟩, .int .i64 0, .int .i64 0, .string ⟨#[]⟩, .string ⟨#[]⟩]
  obtain ⟨q, hq⟩ : ∃ q, q = w4.heap.size := ⟨_, rfl⟩
  rw [← hq] at hQ
  have hqw : w.heap.size ≤ q := by have := hF.size; omega
  have hpq : p ≠ q := by have := hP.lt; omega
  have hoq : ∀ g, v4.ownBlock = some g → g ≠ q := fun g hg => by have := (o4.lt g hg).2; omega
  go_upto_region 7 with (first
    | refine wpList_load_row rfl _ _ rfl _ rfl _ _ _ _ hP.out Tryd.underlying34 rfl hsz ?_
    | (rw [← hq]; refine wpList_store_row rfl _ _ _ rfl _ _ rfl rfl _ _ hQ.out hsz rfl (cut_one _ _ _ _ _) ?_)
    | fail)
  have f5 : Fr [q] w4 ((w4.alloc (.cells #[Value.string ⟨#[]⟩, .int .i64 0, .int .i64 0, .string ⟨#[]⟩, .string ⟨#[]⟩] 34)).setRow q #[Value.string m', .int .i64 N, .int .i64 K, .string i', .string c']) := (Fr.alloc _ _ _).trans (Fr.setRow _ _ q _ (.inl (by simp)))
  have hQ := hQ.setRow #[Value.string m', .int .i64 N, .int .i64 K, .string i', .string c']
  have hP := f5.keep hP (by simp; exact hpq)
  have o5 := own_fr o4 f5 (fun g hg => by simp; exact hoq g hg)
  have hF := hF.new f5 (by simp; exact hqw)
  clear f5 hq o4
  generalize ((w4.alloc (.cells #[Value.string ⟨#[]⟩, .int .i64 0, .int .i64 0, .string ⟨#[]⟩, .string ⟨#[]⟩] 34)).setRow q #[Value.string m', .int .i64 N, .int .i64 K, .string i', .string c']) = W5 at hP hQ o5 hF ⊢
  have hQ : At W5 q 34 [.string m', .int .i64 N, .int .i64 K, .string i', .string c'] := hQ
  try simp only [Act.put]
  go_upto_region 8 with (first
    | (go_at_call 17; refine (cS _).mono ?_; clear cS; rintro e w6 ⟨rfl, f6⟩; have hP := f6.keep hP (by simp); have hQ := f6.keep hQ (by simp); have o5 := own_fr o5 f6 (by simp); have hF := hF.trans f6; have d0 := hQ.cell 0; have z0 := hQ.frozen 0)
    | fail)
  have f7 := Fr.setCell [q] w6 ⟨q, 0, none⟩ (.string M2) (.inl (by simp))
  have hQ := hQ.setCell 0 (.string M2)
  have hP := f7.keep hP (by simp; exact hpq)
  have o5 := own_fr o5 f7 (fun g hg => by simp; exact hoq g hg)
  have hF := hF.new f7 (by simp; exact hqw)
  clear f6 f7 d0 z0
  generalize w6.setCell ⟨q, 0, none⟩ (.string M2) = W6 at hP hQ o5 hF ⊢
  have hQ : At W6 q 34 [.string M2, .int .i64 N, .int .i64 K, .string i', .string c'] := hQ
  refine wp_region_until (fun w' => w'.cell? ⟨q, 0, none⟩ = some (.string M2)) (fun _ => True) 1000 (by rfl) ?_
  have hT : True := trivial
  have hP := hP.drew
  have hQ := hQ.drew
  have o5 := own_fr o5 (Fr.drew [] _) (by simp)
  have hF := hF.trans (Fr.drew [] _)
  generalize W6.drew = W7 at hP hQ o5 hF ⊢
  have s0 : W7.cell? ⟨q, 0, none⟩ = some (.string M2) := hQ.cell 0
  have t1 := texts_own out (by omega) W7 o5
  refine until_s0 0 (v := ?_) rfl (by kernel_rfl) (fun _ _ _ h => h) (Or.inl ⟨by rfl, ?_⟩) (by assumption) (fun h => by first | assumption | exact absurd (h : true = false) (by decide)) ?_
  rotate_left
  · intro w hSw; (try dsimp only at hSw); (try go_simp); (try with_reducible rfl)
  try simp only [Act.put, List.setIfInBounds_toArray, List.set_cons_zero, List.set_cons_succ]
  refine until_s0 1 (v := ?_) rfl (by kernel_rfl) (fun _ _ _ h => h) (Or.inl ⟨by rfl, ?_⟩) (by assumption) (fun h => by first | assumption | exact absurd (h : true = false) (by decide)) ?_
  rotate_left
  · intro w hSw; (try dsimp only at hSw); (try go_simp); (try with_reducible rfl)
  try simp only [Act.put, List.setIfInBounds_toArray, List.set_cons_zero, List.set_cons_succ]
  refine until_s0 2 (v := ?_) rfl (by kernel_rfl) (fun _ _ _ h => h) (Or.inl ⟨by rfl, ?_⟩) (by assumption) (fun h => by first | assumption | exact absurd (h : true = false) (by decide)) ?_
  rotate_left
  · intro w hSw; (try dsimp only at hSw); (try go_simp); (try with_reducible rfl)
  try simp only [Act.put, List.setIfInBounds_toArray, List.set_cons_zero, List.set_cons_succ]
  refine until_sole 3 rfl (by kernel_rfl) (by rfl) ?_
  intro K' hK
  go_simp
  go_at_call 21
  refine t1.mono ?_
  rintro _ w8 ⟨v8, rfl, o8, f8⟩
  have hP := f8.keep hP (by simp)
  have hQ := f8.keep hQ (by simp)
  have o5 := own_fr o5 f8 (by simp)
  have hF := hF.trans f8
  go_wp2_with fail
  refine hK _ _ (hQ.cell 0) (fun _ => trivial) ?_
  clear hK t1 s0
  have t1 := explain_own M2 out (by omega) _ HX.out.2.1 cx rfl 0 rfl w8 (hI.keep hF) (hR.keep hF (by simp)) o8
  refine until_sole 4 rfl (by kernel_rfl) (by rfl) ?_
  intro K' hK
  go_simp
  go_at_call 25
  refine t1.mono ?_
  rintro _ w9 ⟨rfl, f9⟩
  have hP := f9.keep hP (by simp)
  have hQ := f9.keep hQ (by simp)
  have o5 := own_fr o5 f9 (by simp)
  have hF := hF.trans f9
  go_wp2_with fail
  have s0 : w9.cell? ⟨q, 0, none⟩ = some (.string M2) := hQ.cell 0
  refine hK _ _ s0 (fun _ => trivial) ?_
  clear hK t1 o8
  refine until_s0 5 (v := ?_) rfl (by kernel_rfl) (fun _ _ _ h => h) (Or.inl ⟨by rfl, ?_⟩) (by assumption) (fun h => by first | assumption | exact absurd (h : true = false) (by decide)) ?_
  rotate_left
  · intro w hSw; (try dsimp only at hSw); (try go_simp); (try with_reducible rfl)
  try simp only [Act.put, List.setIfInBounds_toArray, List.set_cons_zero, List.set_cons_succ]
  refine until_s0 6 (v := ?_) rfl (by kernel_rfl) (fun _ _ _ h => h) (Or.inl ⟨by rfl, ?_⟩) (by assumption) (fun h => by first | assumption | exact absurd (h : true = false) (by decide)) ?_
  rotate_left
  · intro w hSw; (try dsimp only at hSw); (try go_simp); (try with_reducible rfl)
  try simp only [Act.put, List.setIfInBounds_toArray, List.set_cons_zero, List.set_cons_succ]
  refine until_s0 7 (v := ?_) rfl (by kernel_rfl) (fun _ _ _ h => h) (Or.inl ⟨by rfl, ?_⟩) (by assumption) (fun h => by first | assumption | exact absurd (h : true = false) (by decide)) ?_
  rotate_left
  · intro w hSw; (try dsimp only at hSw); (try go_simp); (try with_reducible rfl)
  try simp only [Act.put, List.setIfInBounds_toArray, List.set_cons_zero, List.set_cons_succ]
  refine until_s0 8 (v := ?_) rfl (by kernel_rfl) (fun _ _ _ h => h) (Or.inl ⟨by rfl, ?_⟩) (by assumption) (fun h => by first | assumption | exact absurd (h : true = false) (by decide)) ?_
  rotate_left
  · intro w hSw; (try dsimp only at hSw); (try go_simp); (try with_reducible rfl)
  try simp only [Act.put, List.setIfInBounds_toArray, List.set_cons_zero, List.set_cons_succ]
  refine until_s0 9 (v := ?_) rfl (by kernel_rfl) (fun _ _ _ h => h) (Or.inl ⟨by rfl, ?_⟩) (by assumption) (fun h => by first | assumption | exact absurd (h : true = false) (by decide)) ?_
  rotate_left
  · intro w hSw; (try dsimp only at hSw); (try go_simp); (try with_reducible rfl)
  try simp only [Act.put, List.setIfInBounds_toArray, List.set_cons_zero, List.set_cons_succ]
  refine until_done (by kernel_rfl) ?_ _
  go_wp2_with fail
  refine wp_region_until (fun w' => w'.cell? ⟨p, 0, none⟩ = some (.string m')) (fun _ => True) 1000 (by rfl) ?_
  clear s0
  have hP := hP.drew
  have hQ := hQ.drew
  have o5 := own_fr o5 (Fr.drew [] _) (by simp)
  have hF := hF.trans (Fr.drew [] _)
  generalize w9.drew = W9 at hP hQ o5 hF ⊢
  have s0 : W9.cell? ⟨p, 0, none⟩ = some (.string m') := hP.cell 0
  have t1 := texts_own out (by omega) W9 o5
  refine until_s0 0 (v := ?_) rfl (by kernel_rfl) (fun _ _ _ h => h) (Or.inl ⟨by rfl, ?_⟩) (by assumption) (fun h => by first | assumption | exact absurd (h : true = false) (by decide)) ?_
  rotate_left
  · intro w hSw; (try dsimp only at hSw); (try go_simp); (try with_reducible rfl)
  try simp only [Act.put, List.setIfInBounds_toArray, List.set_cons_zero, List.set_cons_succ]
  refine until_s0 1 (v := ?_) rfl (by kernel_rfl) (fun _ _ _ h => h) (Or.inl ⟨by rfl, ?_⟩) (by assumption) (fun h => by first | assumption | exact absurd (h : true = false) (by decide)) ?_
  rotate_left
  · intro w hSw; (try dsimp only at hSw); (try go_simp); (try with_reducible rfl)
  try simp only [Act.put, List.setIfInBounds_toArray, List.set_cons_zero, List.set_cons_succ]
  refine until_s0 2 (v := ?_) rfl (by kernel_rfl) (fun _ _ _ h => h) (Or.inl ⟨by rfl, ?_⟩) (by assumption) (fun h => by first | assumption | exact absurd (h : true = false) (by decide)) ?_
  rotate_left
  · intro w hSw; (try dsimp only at hSw); (try go_simp); (try with_reducible rfl)
  try simp only [Act.put, List.setIfInBounds_toArray, List.set_cons_zero, List.set_cons_succ]
  refine until_sole 3 rfl (by kernel_rfl) (by rfl) ?_
  intro K' hK
  go_simp
  go_at_call 21
  refine t1.mono ?_
  rintro _ w10 ⟨v10, rfl, o10, f10⟩
  have hP := f10.keep hP (by simp)
  have hQ := f10.keep hQ (by simp)
  have o5 := own_fr o5 f10 (by simp)
  have hF := hF.trans f10
  go_wp2_with fail
  refine hK _ _ (hP.cell 0) (fun _ => trivial) ?_
  clear hK t1 s0
  have t1 := explain_own m' out (by omega) _ HX.out.2.2.1 c' rfl 0 rfl w10 (hI.keep hF) (hR.keep hF (by simp)) o10
  refine until_sole 4 rfl (by kernel_rfl) (by rfl) ?_
  intro K' hK
  go_simp
  go_at_call 25
  refine t1.mono ?_
  rintro _ w11 ⟨rfl, f11⟩
  have hP := f11.keep hP (by simp)
  have hQ := f11.keep hQ (by simp)
  have o5 := own_fr o5 f11 (by simp)
  have hF := hF.trans f11
  go_wp2_with fail
  have s0 : w11.cell? ⟨p, 0, none⟩ = some (.string m') := hP.cell 0
  refine hK _ _ s0 (fun _ => trivial) ?_
  clear hK t1 o10
  refine until_s0 5 (v := ?_) rfl (by kernel_rfl) (fun _ _ _ h => h) (Or.inl ⟨by rfl, ?_⟩) (by assumption) (fun h => by first | assumption | exact absurd (h : true = false) (by decide)) ?_
  rotate_left
  · intro w hSw; (try dsimp only at hSw); (try go_simp); (try with_reducible rfl)
  try simp only [Act.put, List.setIfInBounds_toArray, List.set_cons_zero, List.set_cons_succ]
  refine until_s0 6 (v := ?_) rfl (by kernel_rfl) (fun _ _ _ h => h) (Or.inl ⟨by rfl, ?_⟩) (by assumption) (fun h => by first | assumption | exact absurd (h : true = false) (by decide)) ?_
  rotate_left
  · intro w hSw; (try dsimp only at hSw); (try go_simp); (try with_reducible rfl)
  try simp only [Act.put, List.setIfInBounds_toArray, List.set_cons_zero, List.set_cons_succ]
  refine until_s0 7 (v := ?_) rfl (by kernel_rfl) (fun _ _ _ h => h) (Or.inl ⟨by rfl, ?_⟩) (by assumption) (fun h => by first | assumption | exact absurd (h : true = false) (by decide)) ?_
  rotate_left
  · intro w hSw; (try dsimp only at hSw); (try go_simp); (try with_reducible rfl)
  try simp only [Act.put, List.setIfInBounds_toArray, List.set_cons_zero, List.set_cons_succ]
  refine until_s0 8 (v := ?_) rfl (by kernel_rfl) (fun _ _ _ h => h) (Or.inl ⟨by rfl, ?_⟩) (by assumption) (fun h => by first | assumption | exact absurd (h : true = false) (by decide)) ?_
  rotate_left
  · intro w hSw; (try dsimp only at hSw); (try go_simp); (try with_reducible rfl)
  try simp only [Act.put, List.setIfInBounds_toArray, List.set_cons_zero, List.set_cons_succ]
  refine until_s0 9 (v := ?_) rfl (by kernel_rfl) (fun _ _ _ h => h) (Or.inl ⟨by rfl, ?_⟩) (by assumption) (fun h => by first | assumption | exact absurd (h : true = false) (by decide)) ?_
  rotate_left
  · intro w hSw; (try dsimp only at hSw); (try go_simp); (try with_reducible rfl)
  try simp only [Act.put, List.setIfInBounds_toArray, List.set_cons_zero, List.set_cons_succ]
  refine until_done (by kernel_rfl) ?_ _
  clear s0 f8 f9 f10 f11
  have p4 := hP.cell 4
  have bq := str_eq (rfl : c' = c')
  have bl : ((cx.size : Int) != c'.size) = false := by rw [HX.out.1, HSF.out.2.2.2]; simp
  go_upto_region 12 with (first
    | (go_at_call 13; refine (num26_any _ _).mono ?_; rintro _ w12 ⟨rfl, rfl⟩)
    | fail)
  clear p4 bq bl
  have d4 := hQ.cell 4
  have z4 := hQ.frozen 4
  go_upto_region 13 with fail
  have f12 := Fr.setCell [q] w11 ⟨q, 4, none⟩ (.string cx) (.inl (by simp))
  have hQ := hQ.setCell 4 (.string cx)
  have o5 := own_fr o5 f12 (fun g hg => by simp; exact hoq g hg)
  have hF := hF.new f12 (by simp; exact hqw)
  clear f12 d4 z4 hP
  generalize w11.setCell ⟨q, 4, none⟩ (.string cx) = W12 at hQ o5 hF ⊢
  have hQ : At W12 q 34 [.string M2, .int .i64 N, .int .i64 K, .string i', .string cx] := hQ
  have s2 := fun w => csplit_any M2 i' cx N K HSF.out.2.1 HSF.out.2.2.1 hK1 hKN hN HX.out.1 w
  have sf := split_facts M2 i' cx N K HSF.out.2.1 HSF.out.2.2.1 hK1 hKN hN HX.out.1
  have hmem := HX.out.2.2.2.1
  obtain ⟨LX, hLX⟩ : ∃ L, L = splitB M2.data.toList i'.data.toList cx.data.toList N K := ⟨_, rfl⟩
  rw [← hLX] at s2 sf hmem
  have HF := Lib.hid (And.intro sf hmem)
  have hol := HX.out.2.2.2.2
  clear sf hmem hLX
  have HOL := Lib.hid hol
  clear hol
  obtain ⟨ad4, c4, rfl, h4⟩ := own_val o5
  clear h4
  go_upto_region 14 with (first
    | refine wpList_load_row rfl _ _ rfl _ rfl _ _ _ _ hQ.out Tryd.underlying34 rfl hsz ?_
    | (go_at_call 19; refine (s2 _ (hI.keep hF) (hR.keep hF (by simp))).mono ?_; clear s2; rintro e w13 ⟨gX, rfl, hgX, hA, f13⟩; have hQ := f13.keep hQ (by simp); have o5 := own_fr o5 f13 (by simp); have hF := hF.trans f13)
    | fail)
  clear f13
  go_wp2_with fail
  go_loopw [17, 18, 19] (fun v17 _ _ wr => ∃ t : Nat, t ≤ K - 1 ∧ v17 = .int .i64 t ∧ At wr q 34 [.string M2, .int .i64 N, .int .i64 K, .string i', .string cx] ∧ wr.ownsRow w2.heap.size 9 1 (.slice ad4 (K - 1) c4) (K - 1) (tcells out) ∧ At wr gX 9 (tcells LX) ∧ Fr [] w wr) (fun v _ _ _ => K - 1 - (intOf v).toNat)
  case atStart => exact ⟨0, by omega, rfl, hQ, o5, hA, hF⟩
  case round =>
    clear hQ o5 hA hF
    obtain ⟨t, ht, rfl, hQ, o5, hA, hF⟩ := hrel
    by_cases hl : t < K - 1
    · have l1 : (t : Int) < ((K - 1 : Nat) : Int) := by omega
      obtain ⟨s, hs⟩ : ∃ s, out[t]? = some s := ⟨_, List.getElem?_eq_getElem (by have := HOL.out; omega)⟩
      obtain ⟨g9, o9, rfl, h9⟩ := (Texts.ofOwn o5) t s hs
      clear h9
      have hsx := HF.out.2 s (List.mem_of_getElem? hs)
      have hget : ∀ w' : World, w'.ownsRow w2.heap.size 9 1 (.slice (some ⟨g9, o9, none⟩) (K - 1) c4) (K - 1) (tcells out) → w'.cell? ⟨g9, o9 + t, none⟩ = some (.string s) := fun w' h => by
        obtain ⟨g', o', e, h⟩ := (Texts.ofOwn h) t s hs
        cases e
        exact h
      have HSX := Lib.hid hsx
      have HG := Lib.hid hget
      clear hs hsx hget
      go_wp2_with fail
      go_loopw [18, 19] (fun v18 v19 wr => ∃ (j : Nat) (b : Bool), j ≤ N ∧ v19 = .int .i64 j ∧ v18 = .bool b ∧ ((∃ j' : Nat, j' < j ∧ LX[j']? = some s) → b = true) ∧ At wr q 34 [.string M2, .int .i64 N, .int .i64 K, .string i', .string cx] ∧ wr.ownsRow w2.heap.size 9 1 (.slice (some ⟨g9, o9, none⟩) (K - 1) c4) (K - 1) (tcells out) ∧ At wr gX 9 (tcells LX) ∧ Fr [] w wr) (fun _ v _ => N - (intOf v).toNat)
      case atStart => exact ⟨0, false, by omega, rfl, rfl, fun h => by obtain ⟨j', h, _⟩ := h; omega, hQ, o5, hA, hF⟩
      case round =>
        clear hQ o5 hA hF
        obtain ⟨j, b, hj, rfl, rfl, hb, hQ, o5, hA, hF⟩ := hrel
        by_cases hjl : j < N
        · have l2 : (j : Int) < N := by omega
          obtain ⟨u, hu⟩ : ∃ u, LX[j]? = some u := ⟨_, List.getElem?_eq_getElem (by have := HF.out.1.1; omega)⟩
          have hcu : wr.cell? ⟨gX, j, none⟩ = some (.string u) := by rw [hA.cell]; simp [tcells, hu]
          have hcs := HG.out wr o5
          have HB2 := Lib.hid (And.intro hb hu)
          clear hb hu
          cases b
          · by_cases hus : u = s
            · have bq := str_eq hus
              clear hus
              go_wp2_with fail
              go_region
              go_wp2_with fail
              exact ⟨⟨j + 1, true, by omega, by simp, rfl, fun _ => rfl, hQ.drew, own_fr o5 (Fr.drew [] _) (by simp), hA.drew, hF.trans (Fr.drew [] _)⟩, by simp only [intOf]; omega⟩
            · have bq := str_neq hus
              have HUS := Lib.hid hus
              clear hus
              go_wp2_with fail
              go_region
              go_wp2_with fail
              refine ⟨⟨j + 1, false, by omega, by simp, rfl, fun h => ?_, hQ.drew, own_fr o5 (Fr.drew [] _) (by simp), hA.drew, hF.trans (Fr.drew [] _)⟩, by simp only [intOf]; omega⟩
              obtain ⟨j', hj', hjs⟩ := h
              by_cases hjj : j' = j
              · subst hjj
                exfalso
                have := HB2.out.2
                rw [hjs] at this
                exact HUS.out (Option.some.inj this).symm
              · exact HB2.out.1 ⟨j', by omega, hjs⟩
          · go_wp2_with fail
            go_region
            go_wp2_with fail
            exact ⟨⟨j + 1, true, by omega, by simp, rfl, fun _ => rfl, hQ.drew, own_fr o5 (Fr.drew [] _) (by simp), hA.drew, hF.trans (Fr.drew [] _)⟩, by simp only [intOf]; omega⟩
        · obtain rfl : j = N := by omega
          have hbt : b = true := hb (by
            obtain ⟨j', hj', he⟩ := List.mem_iff_getElem.1 HSX.out
            exact ⟨j', by have := HF.out.1.1; omega, by rw [List.getElem?_eq_getElem hj', he]⟩)
          subst hbt
          clear hb
          go_wp2_with fail
          exact ⟨⟨t + 1, by omega, by simp, hQ, o5, hA, hF⟩, by simp only [intOf]; omega⟩
    · obtain rfl : t = K - 1 := by omega
      have q2 := hQ.cell 2
      have hll := HF.out.1.1
      have cP2 : ∀ (w' : World), Texts w' (some ⟨gX, 0, none⟩) LX → Ints w' ado ns → Calls Tryd.prog 28 #[.slice (some ⟨gX, 0, none⟩) N N, .slice ado ns.length co, .int .i64 K] w' fun e w'' => ∃ v out, e = .returned v ∧ w''.ownsRow w'.heap.size 9 1 v K (tcells out) ∧ out.length = K ∧ Pick LX out ∧ Fr [] w' w'' := fun w' h1 h2 => by
        have := picked_any LX HF.out.1.2.1 (some ⟨gX, 0, none⟩) N ns ado co (by omega) K (by omega) (by omega) w' h1 h2
        rw [hll] at this
        exact this
      have c1 := cP2 wr (Texts.ofAt hA) (hO.keep hF)
      clear hll o5 hA cP2
      go_upto_region 27 with (first
        | (go_at_call 28; refine c1.mono ?_; clear c1; rintro e w20 ⟨v20, out2, rfl, o20, hol2, hpk2, f20⟩; have hQ := f20.keep hQ (by simp); have hF := hF.trans f20; have cJ := join_own out2 (by omega) _ (HF.out.1.2.2.1 out2 hpk2 (by omega)) M2 rfl 0 rfl _ (hI.keep hF) (hR.keep hF (by simp)) o20; clear hol2 hpk2 o20)
        | (go_at_call 22; refine cJ.mono ?_; clear cJ; rintro e w21 ⟨rfl, f21⟩; have hQ := f21.keep hQ (by simp); have hF := hF.trans f21)
        | fail)
      have q0 := hQ.cell 0
      have bq := str_eq (rfl : M2 = M2)
      clear f20 f21 q2
      go_wp2_with (first
        | (go_at_call 13; refine (num26_any _ _).mono ?_; rintro _ w22 ⟨rfl, rfl⟩)
        | fail)
      go_ret
      exact ⟨rfl, hF⟩
end Go.Proofs.YtffhfmaphjjffaaDoor
