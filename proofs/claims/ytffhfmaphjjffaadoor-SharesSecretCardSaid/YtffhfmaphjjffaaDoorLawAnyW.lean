/- The law SharesAny walked. -/
import Derived.Test.YtffhfmaphjjffaaDoorJnInts
import Derived.Test.YtffhfmaphjjffaaDoorShrLawB
import Derived.Test.YtffhfmaphjjffaaDoorUntil
namespace Go.Proofs.YtffhfmaphjjffaaDoor
open Go.RowKit Go.Lib Go.Joins Base
set_option linter.unusedVariables false
set_option linter.unusedSimpArgs false

theorem ba_list (b : ByteArray) : (⟨b.data.toList.toArray⟩ : ByteArray) = b := by simp
theorem ba_len (b : ByteArray) : b.data.toList.length = b.size := by simp
theorem FullT.texts {w : World} {g : Nat} {ps : List ByteArray} (h : At w g 9 (tcells ps)) : Texts w (some ⟨g, 0, none⟩) ps := Texts.ofAt h
/-- The facts of a split's shares that the laws want. -/
theorem split_facts (m i c : ByteArray) (N K : Nat) (hm : m.size = 32) (hi : i.size = 8) (h1 : 1 ≤ K) (h2 : K ≤ N) (h3 : N ≤ 16) (hc : c.size = 32 * (K - 1)) :
    (splitB m.data.toList i.data.toList c.data.toList N K).length = N ∧ (splitB m.data.toList i.data.toList c.data.toList N K).Nodup ∧
    (∀ out, Pick (splitB m.data.toList i.data.toList c.data.toList N K) out → K ≤ out.length → joinV out = (m.data.toList, 0)) ∧
    (∀ out, Pick (splitB m.data.toList i.data.toList c.data.toList N K) out → out.length < K → joinV out = ([], 262)) ∧
    (∀ out s, Pick (splitB m.data.toList i.data.toList c.data.toList N K) out → out[0]? = some s → joinV (out ++ [s]) = ([], 261)) := by
  have hl : 32 * K ≤ m.data.toList.length + c.data.toList.length := by rw [ba_len, ba_len]; omega
  have hil : i.data.toList.length = 8 := by rw [ba_len]; exact hi
  have hnd := splitB_nodup m.data.toList i.data.toList c.data.toList N K h3 hil hl
  have hsh := fun out (h : Pick (splitB m.data.toList i.data.toList c.data.toList N K) out) s (hs : s ∈ out) => splitB_shar h3 s (h.mem s hs)
  refine ⟨splitB_len .., ?_, fun out h ho => ?_, fun out h ho => ?_, fun out s h hs => ?_⟩
  · have n1 : ((splitB m.data.toList i.data.toList c.data.toList N K).map ptO).Nodup := List.Pairwise.of_map (·.1) (fun a b h e => h (congrArg _ e)) hnd
    exact List.Pairwise.of_map ptO (fun a b h e => h (congrArg _ e)) n1
  · exact join_shar h1 (by omega) (by rw [ba_len]; exact hm) hil hl (hsh out h) (h.nodup hnd) ho
  · exact join_shar_few h1 (by omega) hil hl (hsh out h) (h.nodup hnd) ho
  · refine join_shar_twice h1 (by omega) hil hl (fun t ht => ?_) (fun hn => ?_)
    · rcases List.mem_append.1 ht with ht | ht
      · exact hsh out h t ht
      · rw [List.mem_singleton.1 ht]; exact hsh out h s (List.mem_of_getElem? hs)
    · simp only [xsOf, List.map_append, List.map_cons, List.map_nil] at hn
      rw [List.nodup_append] at hn
      exact hn.2.2 (ptO s).1 (List.mem_map.2 ⟨ptO s, List.mem_map.2 ⟨s, List.mem_of_getElem? hs, rfl⟩, rfl⟩) _ (by simp) rfl
set_option maxRecDepth 100000 in
set_option maxHeartbeats 4000000 in
theorem any_law {w : World} (v : Value) (x : CutV) (hv : IsCut v x) (vo : Value) (ns : List Int) (ho : IsInts w vo ns) (more : Int) (hm0 : (Lit.int .i64 more).wf = true) (hI : First w) (hR : Roots w) :
    Calls Tryd.prog 7 #[v, vo, .int .i64 more] w fun e w' => e = .returned (.bool true) ∧ Fr [] w w' := by
  have hi5 : (Tryd.prog.info? 9).map (fun i => (i.zero, i.size, i.bytes)) = some (some (.string ⟨#[]⟩), 1, 16) := by kernel_rfl
  obtain ⟨iT, hiT, zT0, zT1, zT2⟩ := info_parts hi5
  obtain ⟨rfl, h1, h2, h3, h4, h5⟩ := hv
  obtain ⟨m, n, k, i, c⟩ := x
  obtain ⟨ado, co, rfl, hO, hnl⟩ := ho
  have cR := fun w => right_any m i c n k h1 h2 h3 h4 h5 w
  have hmr := int_range hm0
  have hsz : (Tryd.prog.info? 34).map (·.size) = some 5 := by kernel_rfl
  have hP := At.alloc_new w 34 #[.string m, .int .i64 n, .int .i64 k, .string i, .string c]
  have hF := Fr.alloc [] w (.cells #[.string m, .int .i64 n, .int .i64 k, .string i, .string c] 34)
  clear h1 h2 h3 h4 h5 hm0
  go_enter Tryd.func7, Tryd.ntmps7
  go_wp2_with fail
  obtain ⟨p, hp⟩ : ∃ p, p = w.heap.size := ⟨_, rfl⟩
  rw [← hp] at hP ⊢
  have hpw : w.heap.size ≤ p := by omega
  clear hp
  go_upto_region 2 with (first
    | refine wpList_load_row rfl _ _ rfl _ rfl _ _ _ _ hP.out Tryd.underlying34 rfl hsz ?_
    | (go_at_call 16; refine (cR _).mono ?_; clear cR; rintro e w1 ⟨m', i', c', N, K, rfl, hms, his, hK1, hKN, hN, hcs, f1⟩; have hP := f1.keep hP (by simp); have hF := hF.trans f1)
    | refine wpList_store_row rfl _ _ _ rfl _ _ rfl rfl _ _ hP.out hsz rfl (cut_one _ _ _ _ _) ?_
    | fail)
  have hP := hP.setRow #[Value.string m', .int .i64 N, .int .i64 K, .string i', .string c']
  have hF := hF.new (Fr.setRow [p] w1 p #[Value.string m', .int .i64 N, .int .i64 K, .string i', .string c'] (.inl (by simp))) (by simp; exact hpw)
  clear f1
  generalize w1.setRow p #[Value.string m', .int .i64 N, .int .i64 K, .string i', .string c'] = W1 at hP hF ⊢
  have hP : At W1 p 34 [.string m', .int .i64 N, .int .i64 K, .string i', .string c'] := hP
  obtain ⟨b0, b1, b2, b3, b4⟩ := split_facts m' i' c' N K hms his hK1 hKN hN hcs
  have s1 := fun w => csplit_any m' i' c' N K hms his hK1 hKN hN hcs w
  obtain ⟨L, hL⟩ : ∃ L, L = splitB m'.data.toList i'.data.toList c'.data.toList N K := ⟨_, rfl⟩
  rw [← hL] at b0 b1 b2 b3 b4 s1
  have HB := Lib.hid (And.intro b0 (And.intro b1 (And.intro b2 (And.intro b3 b4))))
  have cM : ∀ w, Calls Tryd.prog 27 #[.int .i64 more, .int .i64 K, .int .i64 N] w fun e w' => ∃ r, (K : Int) ≤ r ∧ r ≤ N ∧ e = .returned (.int .i64 r) ∧ Fr [] w w' := fun w => clipped_any more K N hmr (by omega) (by omega) (by omega) w
  have cM2 : ∀ w, Calls Tryd.prog 27 #[.int .i64 more, .int .i64 0, .int .i64 ((K : Int) - 1)] w fun e w' => ∃ r, (0 : Int) ≤ r ∧ r ≤ (K : Int) - 1 ∧ e = .returned (.int .i64 r) ∧ Fr [] w w' := fun w => clipped_any more 0 ((K : Int) - 1) hmr (by omega) (by omega) (by omega) w
  have cP : ∀ (g n : Nat) (hn : n ≤ N) (w' : World), Texts w' (some ⟨g, 0, none⟩) L → Ints w' ado ns → Calls Tryd.prog 28 #[.slice (some ⟨g, 0, none⟩) N N, .slice ado ns.length co, .int .i64 n] w' fun e w'' => ∃ v out, e = .returned v ∧ w''.ownsRow w'.heap.size 9 1 v n (tcells out) ∧ out.length = n ∧ Pick L out ∧ Fr [] w' w'' := fun g n hn w' h1 h2 => by
    have := picked_any L HB.out.2.1 (some ⟨g, 0, none⟩) N ns ado co (by omega) n (by have := HB.out.1; omega) (by have := HB.out.1; omega) w' h1 h2
    rw [HB.out.1] at this
    exact this
  have c0 : ∀ out, Pick L out → out.length ≤ N := fun out h => by
    obtain ⟨r, hp⟩ := h
    have := hp.length_eq
    rw [List.length_append, HB.out.1] at this
    omega
  have HC := Lib.hid c0
  have mq1 := str_eq (rfl : m' = m')
  have hwr : IntKind.i64.wrap ((K : Int) - 1) = (K : Int) - 1 := IntWalk.i64_in _ (by omega)
  clear hms his hcs hL b0 b1 b2 b3 b4 hmr c0
  go_upto_region 3 with (first
    | refine wpList_load_row rfl _ _ rfl _ rfl _ _ _ _ hP.out Tryd.underlying34 rfl hsz ?_
    | (go_at_call 19; refine (s1 _ (hI.keep hF) (hR.keep hF (by simp))).mono ?_; clear s1; rintro e w2 ⟨g, rfl, hg, hA, f2⟩; have hP := f2.keep hP (by simp); have hF := hF.trans f2)
    | fail)
  have q1 := hP.cell 1
  have q2 := hP.cell 2
  go_upto_region 6 with (first
    | (go_at_call 27; refine (cM _).mono ?_; clear cM; rintro e w3 ⟨r, hr1, hr2, rfl, f3⟩; obtain ⟨a, rfl⟩ : ∃ a : Nat, r = a := ⟨r.toNat, (by omega)⟩; have hP := f3.keep hP (by simp); have hF := hF.trans f3; have hA := f3.keep hA (by simp))
    | fail)
  have c1 := fun h => cP g a h w3 (Texts.ofAt hA) (hO.keep hF)
  have mk1 : True := trivial
  clear q1 q2
  go_upto_region 7 with (first
    | (go_at_call 28; clear mk1; refine (c1 (by omega)).mono ?_; clear c1; rintro e w4 ⟨v4, out, rfl, o4, hol, hpk, f4⟩; have hP := f4.keep hP (by simp); have hF := hF.trans f4; have hA := f4.keep hA (by simp); have cJ := join_own out (by have := HC.out out hpk; omega) _ (HB.out.2.2.1 out hpk (by omega)) m' rfl 0 rfl _ (hI.keep hF) (hR.keep hF (by simp)) o4)
    | (go_at_call 22; refine cJ.mono ?_; clear cJ; rintro e w5 ⟨rfl, f5⟩; have hP := f5.keep hP (by simp); have hF := hF.trans f5; have hA := f5.keep hA (by simp); have o5 := own_fr o4 f5 (by simp))
    | fail)
  have q0 := hP.cell 0
  have q2 := hP.cell 2
  clear o4 o5 hol hpk f2 f3 f4 f5
  have mk2 : True := trivial
  go_upto_region 10 with (first
    | (go_at_call 13; refine (num26_any _ _).mono ?_; rintro _ w6 ⟨rfl, rfl⟩)
    | (go_at_call 27; clear mk2; refine (cM2 _).mono ?_; clear cM2; rintro e w6 ⟨r, hr3, hr4, rfl, f6⟩; obtain ⟨a2, rfl⟩ : ∃ a2 : Nat, r = a2 := ⟨r.toNat, (by omega)⟩; have hP := f6.keep hP (by simp); have hF := hF.trans f6; have hA := f6.keep hA (by simp); have c2 := fun h => cP g a2 h w6 (Texts.ofAt hA) (hO.keep hF))
    | (go_at_call 28; refine (c2 (by omega)).mono ?_; clear c2; rintro e w7 ⟨v7, out2, rfl, o7, hol2, hpk2, f7⟩; have hP := f7.keep hP (by simp); have hF := hF.trans f7; have hA := f7.keep hA (by simp); have cJ := join_own out2 (by have := HC.out out2 hpk2; omega) _ (HB.out.2.2.2.1 out2 hpk2 (by omega)) ⟨#[]⟩ rfl 262 rfl _ (hI.keep hF) (hR.keep hF (by simp)) o7)
    | fail)
  go_upto_region 11 with (first
    | (go_at_call 22; refine cJ.mono ?_; clear cJ; rintro e w8 ⟨rfl, f8⟩; have hP := f8.keep hP (by simp); have hF := hF.trans f8; have hA := f8.keep hA (by simp))
    | fail)
  clear o7 hol2 hpk2 f6 f7 f8 q0 q2
  have c3 := fun h => cP g a h w8 (Texts.ofAt hA) (hO.keep hF)
  go_upto_region 14 with (first
    | (go_at_call 13; refine (num26_any _ _).mono ?_; rintro _ w9 ⟨rfl, rfl⟩)
    | (go_at_call 28; refine (c3 (by omega)).mono ?_; clear c3; rintro e w9 ⟨v9, out3, rfl, o9, hol3, hpk3, f9⟩; have hP := f9.keep hP (by simp); have hF9 := hF.trans f9)
    | fail)
  obtain ⟨g9, c9, rfl⟩ := ownsRow_form o9 (by omega)
  obtain ⟨s0, hs0⟩ : ∃ s0, out3[0]? = some s0 := ⟨_, List.getElem?_eq_getElem (by omega)⟩
  have hc9 : w9.cell? ⟨g9, 0, none⟩ = some (.string s0) := by
    have := World.ownsRow.cells o9 rfl 0 (.string s0) (by simp [tcells, hs0])
    rwa [addr_add', Nat.zero_add] at this
  have A6 := At.alloc_new w9 9 #[Value.string s0]
  have l0 : (0 : Int) < a := by omega
  have hsz8 := hF.size
  have hsz9 := f9.size
  have hJ3 := HB.out.2.2.2.2 out3 s0 hpk3 hs0
  have HJ3 := Lib.hid (And.intro hJ3 hol3)
  have hlen3 := HC.out out3 hpk3
  clear hs0 hJ3 hol3 hpk3
  go_upto_region 15 with (first
    | (at_builtin; refine wpList_append_own _ rfl _ _ _ rfl w8.heap.size 9 iT (.string ⟨#[]⟩) 1 16 Tryd.underlying22 hiT zT0 zT1 zT2 rfl (by decide) _ a _ rfl (World.ownsRow.alloc o9 _) ⟨w9.heap.size, 0, none⟩ 1 1 [.string s0] rfl rfl (by intro j u hj; rw [addr_add', Nat.zero_add]; exact (A6.cell j).trans hj) (by intro u hu; simp at hu; subst hu; rfl) (by simp [maxLen]; omega) (by omega) (by simp; omega) ?_; intro v10 w10 o10 gr10 _)
    | fail)
  have o10 : w10.ownsRow w8.heap.size 9 1 v10 (a + 1) (tcells (out3 ++ [s0])) := by rw [tcells_app]; exact o10
  have f10 : Fr [g9] w9 w10 := (Fr.alloc _ w9 _).trans (Fr.ofGrown gr10 (by intro k hk; cases hk; simp))
  have hg9 := (o9.lt g9 rfl).1
  have hF := hF9.new f10 (by simp; omega)
  have cJ := join_own (out3 ++ [s0]) (by simp; omega) _ HJ3.out.1 ⟨#[]⟩ rfl 261 rfl _ (hI.keep hF) (hR.keep hF (by simp)) o10
  clear o9 o10 gr10 f10 A6 hc9 hF9
  go_wp2_with (first
    | (go_at_call 13; refine (num26_any _ _).mono ?_; rintro _ w12 ⟨rfl, rfl⟩)
    | (go_at_call 22; refine cJ.mono ?_; clear cJ; rintro e w11 ⟨rfl, f11⟩; have hF := hF.trans f11)
    | fail)
  go_ret
  exact ⟨rfl, hF⟩
end Go.Proofs.YtffhfmaphjjffaaDoor
