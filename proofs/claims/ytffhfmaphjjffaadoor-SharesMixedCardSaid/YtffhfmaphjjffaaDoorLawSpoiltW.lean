/- The law SharesSpoilt walked. -/
import Derived.Test.YtffhfmaphjjffaaDoorLawAnyW
import Derived.Test.YtffhfmaphjjffaaDoorUntil
namespace Go.Proofs.YtffhfmaphjjffaaDoor
open Go.RowKit Go.Lib Go.Joins Base
set_option linter.unusedVariables false
set_option linter.unusedSimpArgs false

theorem own_at {w : World} {b g n c : Nat} {e : TypeId} {xs : List Value} (h : w.ownsRow b e 1 (.slice (some ⟨g, 0, none⟩) n c) n xs) : ∃ R, At w g e (xs ++ R) := by
  obtain ⟨_, ⟨h', _⟩ | ⟨g', cap', cur, hv, hb', hg, _, _, _, ht⟩⟩ := h
  · simp at h'
  · simp only [Value.slice.injEq, Option.some.injEq, Addr.mk.injEq, and_true] at hv
    obtain ⟨rfl, _⟩ := hv
    refine ⟨cur.toList.drop (n * 1), ?_⟩
    rw [← ht, List.take_append_drop]
    unfold At; rw [hg]
theorem Texts.ofAtR {w : World} {g : Nat} {ps : List ByteArray} {R : List Value} (h : At w g 9 (tcells ps ++ R)) : Texts w (some ⟨g, 0, none⟩) ps := by
  intro j s hj
  refine ⟨g, 0, rfl, ?_⟩
  rw [Nat.zero_add, h.cell, List.getElem?_append_left (by rw [tcells_len]; exact (List.getElem?_eq_some_iff.1 hj).1)]
  simp [tcells, hj]
theorem tcells_set (ps : List ByteArray) (R : List Value) (a : Nat) (t : ByteArray) (h : a < ps.length) : (tcells ps ++ R).set a (.string t) = tcells (ps.set a t) ++ R := by
  rw [List.set_append_left _ _ (by rw [tcells_len]; exact h), tcells, tcells, List.map_set]
theorem join_at (ps : List ByteArray) {g n c : Nat} {R : List Value} (hl : n = ps.length) (hn : n ≤ 4194304) (J : List UInt8 × Int) (hJ : joinV ps = J) (s : ByteArray) (hs : s.data.toList = J.1) (E : Int) (hE : E = J.2) (w : World) (hI : First w) (hR : Roots w) (h : At w g 9 (tcells ps ++ R)) :
    Calls Tryd.prog 22 #[.slice (some ⟨g, 0, none⟩) n c] w fun e w' => e = .returned (.tuple #[.string s, .int .i64 E]) ∧ Fr [] w w' := by
  subst hl
  have := join_any ps (some ⟨g, 0, none⟩) c hn w hI hR (Texts.ofAtR h)
  rw [hJ, ← hs, ← hE] at this
  exact this
theorem cell_set {w : World} {g : Nat} {ps : List ByteArray} {R : List Value} {a : Nat} {t : ByteArray} (h : At w g 9 (tcells (ps.set a t) ++ R)) (ha : a < ps.length) : w.cell? ⟨g, a, none⟩ = some (.string t) := by
  rw [h.cell, List.getElem?_append_left (by rw [tcells_len, List.length_set]; exact ha)]
  simp [tcells, ha]
theorem At.put {w : World} {g : Nat} {ps : List ByteArray} {R : List Value} {a : Nat} {t : ByteArray} (u : ByteArray) (h : At w g 9 (tcells (ps.set a t) ++ R)) (ha : a < ps.length) : At (w.setCell ⟨g, a, none⟩ (.string u)) g 9 (tcells (ps.set a u) ++ R) := by
  have := h.setCell a (.string u)
  rw [tcells_set _ _ _ _ (by rw [List.length_set]; exact ha), List.set_set] at this
  exact this
theorem set_own (l : List ByteArray) (a : Nat) (x : ByteArray) (h : l[a]? = some x) : l.set a x = l := by
  obtain ⟨hl, rfl⟩ := List.getElem?_eq_some_iff.1 h
  exact List.set_getElem_self hl
theorem ba_take (b : ByteArray) (n : Nat) : (b.extract 0 n).data.toList = b.data.toList.take n := by
  have := str_take b.data.toList n
  rw [ba_list] at this
  rw [this]
theorem ba_mid (b : ByteArray) (i j : Nat) (h : i ≤ j) : (b.extract i j).data.toList = (b.data.toList.drop i).take (j - i) := by
  have := str_mid b.data.toList i j h
  rw [ba_list] at this
  rw [this]
theorem ba_app (a b : ByteArray) : (a ++ b).data.toList = a.data.toList ++ b.data.toList := by
  rw [ByteArray.data_append, Array.toList_append]
set_option maxRecDepth 100000 in
set_option maxHeartbeats 4000000 in
theorem spoilt_law {w : World} (v : Value) (x : CutV) (hv : IsCut v x) (vo : Value) (ns : List Int) (ho : IsInts w vo ns) (at_ : Int) (hm0 : (Lit.int .i64 at_).wf = true) (sum : ByteArray) (hsum : sum.size ≤ 140737488351232) (number : Int) (hn0 : (Lit.int .i64 number).wf = true) (hI : First w) (hR : Roots w) :
    Calls Tryd.prog 8 #[v, vo, .int .i64 at_, .string sum, .int .i64 number] w fun e w' => e = .returned (.bool true) ∧ Fr [] w w' := by
  have hi5 : (Tryd.prog.info? 9).map (fun i => (i.zero, i.size, i.bytes)) = some (some (.string ⟨#[]⟩), 1, 16) := by kernel_rfl
  obtain ⟨iT, hiT, zT0, zT1, zT2⟩ := info_parts hi5
  obtain ⟨rfl, h1, h2, h3, h4, h5⟩ := hv
  obtain ⟨m, n, k, i, c⟩ := x
  obtain ⟨ado, co, rfl, hO, hnl⟩ := ho
  have cR := fun w => right_any m i c n k h1 h2 h3 h4 h5 w
  have hmr := int_range hm0
  have hnr := int_range hn0
  have hsz : (Tryd.prog.info? 34).map (·.size) = some 5 := by kernel_rfl
  have hP := At.alloc_new w 34 #[.string m, .int .i64 n, .int .i64 k, .string i, .string c]
  have hF := Fr.alloc [] w (.cells #[.string m, .int .i64 n, .int .i64 k, .string i, .string c] 34)
  clear h1 h2 h3 h4 h5 hm0 hn0
  go_enter Tryd.func8, Tryd.ntmps8
  go_wp2_with fail
  obtain ⟨p, hp⟩ : ∃ p, p = w.heap.size := ⟨_, rfl⟩
  rw [← hp] at hP ⊢
  have hpw : w.heap.size ≤ p := by omega
  clear hp
  go_upto_region 2 with (first
    | refine wpList_load_row rfl _ _ rfl _ rfl _ _ _ _ hP.out Tryd.underlying34 rfl hsz ?_
    | (go_at_call 16; refine (cR _).mono ?_; clear cR; rintro e w1 ⟨m', i', c', N, K, rfl, hms, his, hK1, hKN, hN, hcs, f1⟩; have hP := f1.keep hP (by simp); have hF := hF.trans f1)
    | refine wpList_store_row rfl _ _ _ rfl _ _ rfl rfl _ _ hP.out hsz rfl (cut_one _ _ _ _ _) ?_
    | fail)
  have hP := hP.setRow #[Value.string m', .int .i64 N, .int .i64 K, .string i', .string c']
  have hF := hF.new (Fr.setRow [p] w1 p #[Value.string m', .int .i64 N, .int .i64 K, .string i', .string c'] (.inl (by simp))) (by simp; exact hpw)
  clear f1
  generalize w1.setRow p #[Value.string m', .int .i64 N, .int .i64 K, .string i', .string c'] = W1 at hP hF ⊢
  have hP : At W1 p 34 [.string m', .int .i64 N, .int .i64 K, .string i', .string c'] := hP
  obtain ⟨b0, b1, b2, b3, b4⟩ := split_facts m' i' c' N K hms his hK1 hKN hN hcs
  have s1 := fun w => csplit_any m' i' c' N K hms his hK1 hKN hN hcs w
  obtain ⟨L, hL⟩ : ∃ L, L = splitB m'.data.toList i'.data.toList c'.data.toList N K := ⟨_, rfl⟩
  rw [← hL] at b0 b1 b2 b3 b4 s1
  have HB := Lib.hid (And.intro b0 (And.intro b1 (And.intro b2 (And.intro b3 b4))))
  have cP : ∀ (g n : Nat) (hn : n ≤ N) (w' : World), Texts w' (some ⟨g, 0, none⟩) L → Ints w' ado ns → Calls Tryd.prog 28 #[.slice (some ⟨g, 0, none⟩) N N, .slice ado ns.length co, .int .i64 n] w' fun e w'' => ∃ v out, e = .returned v ∧ w''.ownsRow w'.heap.size 9 1 v n (tcells out) ∧ out.length = n ∧ Pick L out ∧ Fr [] w' w'' := fun g n hn w' h1 h2 => by
    have := picked_any L HB.out.2.1 (some ⟨g, 0, none⟩) N ns ado co (by omega) n (by have := HB.out.1; omega) (by have := HB.out.1; omega) w' h1 h2
    rw [HB.out.1] at this
    exact this
  have c0 : ∀ out, Pick L out → K = out.length → ∀ s ∈ out, isE s.data.toList = 0 := fun out h _ s hs => by
    have := h.mem s hs
    rw [hL] at this
    obtain ⟨x, h1, h2, rfl⟩ := splitB_shar hN s this
    exact ofV_is K hK1 (by omega) _ x _ (by rw [ba_len]; exact his) (valS_len _ _ _ _ (by rw [ba_len, ba_len]; omega)) ⟨h1, h2⟩
  have cA : ∀ w, Calls Tryd.prog 27 #[.int .i64 at_, .int .i64 0, .int .i64 ((K : Int) - 1)] w fun e w' => ∃ r, (0 : Int) ≤ r ∧ r ≤ (K : Int) - 1 ∧ e = .returned (.int .i64 r) ∧ Fr [] w w' := fun w => clipped_any at_ 0 ((K : Int) - 1) hmr (by omega) (by omega) (by omega) w
  have cN : ∀ w, Calls Tryd.prog 27 #[.int .i64 number, .int .i64 16, .int .i64 255] w fun e w' => ∃ r, (16 : Int) ≤ r ∧ r ≤ 255 ∧ e = .returned (.int .i64 r) ∧ Fr [] w w' := fun w => clipped_any number 16 255 hnr (by omega) (by omega) (by omega) w
  have cS := fun w => sized_any sum 8 hsum (by omega) w
  obtain ⟨S8, hS8⟩ : ∃ S8 : ByteArray, S8 = ⟨(sizedL sum.data.toList 8).toArray⟩ := ⟨_, rfl⟩
  have hS8s : S8.size = 8 := by rw [hS8]; show (sizedL _ _).toArray.size = 8; rw [List.size_toArray, sizedL_len]
  rw [← hS8] at cS
  have HC := Lib.hid c0
  have hwr : IntKind.i64.wrap ((K : Int) - 1) = (K : Int) - 1 := IntWalk.i64_in _ (by omega)
  clear hms his hcs hL b0 b1 b2 b3 b4 hmr hnr c0 hS8 hsum
  go_upto_region 3 with (first
    | refine wpList_load_row rfl _ _ rfl _ rfl _ _ _ _ hP.out Tryd.underlying34 rfl hsz ?_
    | (go_at_call 19; refine (s1 _ (hI.keep hF) (hR.keep hF (by simp))).mono ?_; clear s1; rintro e w2 ⟨g, rfl, hg, hA, f2⟩; have hP := f2.keep hP (by simp); have hF := hF.trans f2)
    | fail)
  have q2 := hP.cell 2
  have c1 := fun h => cP g K h w2 (Texts.ofAt hA) (hO.keep hF)
  go_upto_region 6 with (first
    | (go_at_call 28; refine (c1 (by omega)).mono ?_; clear c1; rintro e w4 ⟨v4, out, rfl, o4, hol, hpk, f4⟩; have hF4 := hF.trans f4)
    | fail)
  obtain ⟨g9, c9, rfl⟩ := ownsRow_form o4 (by omega)
  obtain ⟨R, A9⟩ := own_at o4
  have hg9 : w.heap.size ≤ g9 := by have := (o4.lt g9 rfl).1; have := hF.size; omega
  have hFr := hF4
  go_upto_region 7 with (first
    | (go_at_call 27; refine (cA _).mono ?_; clear cA; rintro e w5 ⟨r, hr1, hr2, rfl, f5⟩; obtain ⟨a, rfl⟩ : ∃ a : Nat, r = a := ⟨r.toNat, (by omega)⟩; have hF := hFr.trans f5; have A9 := f5.keep A9 (by simp))
    | fail)
  obtain ⟨good, hgd⟩ : ∃ s, out[a]? = some s := ⟨_, List.getElem?_eq_getElem (by omega)⟩
  have hgE := HC.out out hpk hol.symm good (List.mem_of_getElem? hgd)
  obtain ⟨hg51, hg83, hgsum, _⟩ := isE_parts _ hgE
  have hgs : good.size = 51 := by rw [ba_len] at hg51; exact hg51
  have hcell : w5.cell? ⟨g9, a, none⟩ = some (.string good) := by rw [A9.cell, List.getElem?_append_left (by rw [tcells_len]; omega)]; simp [tcells, hgd]
  have al : (a : Int) < K := by omega
  have aK : a < out.length := by omega
  have hall := HC.out out hpk hol.symm
  have hJ0 := HB.out.2.2.1 out hpk (by omega)
  have HG := Lib.hid (And.intro hgE (And.intro hg51 (And.intro hgd (And.intro hall (And.intro hol (And.intro hJ0 aK))))))
  clear hgE hg51 hg83 hgsum hgd hall hJ0 hol hpk aK f4 f5 o4 hFr hF4 hA hP q2 cP hO
  obtain ⟨G43, hG43⟩ : ∃ G, G = good.extract 0 43 := ⟨_, rfl⟩
  have e43 : good.extract 0 43 = G43 := hG43.symm
  have hG43s : G43.size = 43 := by rw [hG43, ByteArray.size_extract]; omega
  have k1 : ¬ 9223372036854775807 < G43.size + S8.size := by omega
  go_upto_region 10 with fail
  have fz9 := A9.frozen a
  have HX := Lib.hid (And.intro hG43 (And.intro hG43s hS8s))
  clear hG43 hG43s hS8s
  refine wp_region_until (fun _ => True) (fun _ => True) 1000 (by rfl) ?_
  have s0 : True := trivial
  have A9 := A9.drew
  have hF := hF.trans (Fr.drew [] _)
  generalize w5.drew = W5 at A9 hF ⊢
  refine until_s0 0 (v := ?_) rfl (by kernel_rfl) (fun _ _ _ h => h) (Or.inl ⟨by rfl, ?_⟩) (by assumption) (fun h => by first | assumption | exact absurd (h : true = false) (by decide)) ?_
  rotate_left
  · intro w hSw; (try dsimp only at hSw); (try go_simp); (try with_reducible rfl)
  try simp only [Act.put, List.setIfInBounds_toArray, List.set_cons_zero, List.set_cons_succ]
  refine until_s0 1 (v := ?_) rfl (by kernel_rfl) (fun _ _ _ h => h) (Or.inl ⟨by rfl, ?_⟩) (by assumption) (fun h => by first | assumption | exact absurd (h : true = false) (by decide)) ?_
  rotate_left
  · intro w hSw; (try dsimp only at hSw); (try go_simp); (try with_reducible rfl)
  try simp only [Act.put, List.setIfInBounds_toArray, List.set_cons_zero, List.set_cons_succ]
  refine until_s0 2 (v := ?_) rfl (by kernel_rfl) (fun _ _ _ h => h) (Or.inl ⟨by rfl, ?_⟩) (by assumption) (fun h => by first | assumption | exact absurd (h : true = false) (by decide)) ?_
  rotate_left
  · intro w hSw; (try dsimp only at hSw); (try go_simp); (try with_reducible rfl)
  try simp only [Act.put, List.setIfInBounds_toArray, List.set_cons_zero, List.set_cons_succ]
  refine until_s0 3 (v := ?_) rfl (by kernel_rfl) (fun _ _ _ h => h) (Or.inl ⟨by rfl, ?_⟩) (by assumption) (fun h => by first | assumption | exact absurd (h : true = false) (by decide)) ?_
  rotate_left
  · intro w hSw; (try dsimp only at hSw); (try go_simp); (try with_reducible rfl)
  try simp only [Act.put, List.setIfInBounds_toArray, List.set_cons_zero, List.set_cons_succ]
  refine until_s0 4 (v := ?_) rfl (by kernel_rfl) (fun _ _ _ h => h) (Or.inl ⟨by rfl, ?_⟩) (by assumption) (fun h => by first | assumption | exact absurd (h : true = false) (by decide)) ?_
  rotate_left
  · intro w hSw; (try dsimp only at hSw); (try go_simp); (try with_reducible rfl)
  try simp only [Act.put, List.setIfInBounds_toArray, List.set_cons_zero, List.set_cons_succ]
  refine until_sole 5 rfl (by kernel_rfl) (by rfl) ?_
  intro K' hK
  go_simp
  go_at_call 17
  refine (cS _).mono ?_
  rintro _ w6 ⟨rfl, f6⟩
  have A9 := f6.keep A9 (by simp)
  have hF := hF.trans f6
  have fz9 := A9.frozen a
  have hcell : w6.cell? ⟨g9, a, none⟩ = some (.string good) := by rw [A9.cell, List.getElem?_append_left (by rw [tcells_len]; exact HG.out.2.2.2.2.2.2)]; simp [tcells, HG.out.2.2.1]
  go_wp2_with fail
  refine hK _ _ trivial (fun _ => trivial) ?_
  clear hK cS
  refine until_s0 6 (v := ?_) rfl (by kernel_rfl) (fun _ _ _ h => h) (Or.inl ⟨by rfl, ?_⟩) (by assumption) (fun h => by first | assumption | exact absurd (h : true = false) (by decide)) ?_
  rotate_left
  · intro w hSw; (try dsimp only at hSw); (try go_simp); (try with_reducible rfl)
  try simp only [Act.put, List.setIfInBounds_toArray, List.set_cons_zero, List.set_cons_succ]
  refine until_s0 7 (v := ?_) rfl (by kernel_rfl) (fun _ _ _ h => h) (Or.inl ⟨by rfl, ?_⟩) (by assumption) (fun h => by first | assumption | exact absurd (h : true = false) (by decide)) ?_
  rotate_left
  · intro w hSw; (try dsimp only at hSw); (try go_simp); (try with_reducible rfl)
  try simp only [Act.put, List.setIfInBounds_toArray, List.set_cons_zero, List.set_cons_succ]
  refine until_sole 8 rfl (by kernel_rfl) (by rfl) ?_
  intro K' hK
  go_simp
  refine hK _ _ trivial (fun _ => trivial) ?_
  clear hK
  refine until_done (by kernel_rfl) ?_ _
  have aK := HG.out.2.2.2.2.2.2
  have hol := HG.out.2.2.2.2.1
  have hso : out.set a good = out := set_own out a good HG.out.2.2.1
  have A9 : At w6 g9 9 (tcells (out.set a good) ++ R) := by rw [hso]; exact A9
  have A9 := At.put (G43 ++ S8) A9 aK
  have hF := hF.new (Fr.setCell [g9] _ ⟨g9, a, none⟩ (.string (G43 ++ S8)) (.inl (by simp))) (by simp; exact hg9)
  have hl1 : ∀ t : ByteArray, K = (out.set a t).length := fun t => by simp; omega
  have hbadE : ∀ (t : ByteArray) (E : Int), isE t.data.toList = E → E ≠ 0 → joinV (out.set a t) = ([], E) := fun t E h h0 => by
    rw [← h]; exact join_spoil HG.out.2.2.2.1 a aK t (by rw [h]; exact h0)
  obtain ⟨t1, ht1⟩ : ∃ t1, t1 = G43 ++ S8 := ⟨_, rfl⟩
  rw [← ht1] at A9 hF ⊢
  have hd1 : t1.data.toList = good.data.toList.take 43 ++ S8.data.toList := by rw [ht1, ba_app, HX.out.1, ba_take]
  generalize w6.setCell ⟨g9, a, none⟩ (.string t1) = W6 at A9 hF ⊢
  have HK := Lib.hid (And.intro hl1 (And.intro hbadE (And.intro hso aK)))
  have hc1 := cell_set A9 aK
  clear ht1 fz9 hcell k1 e43 hl1 hbadE hso aK hol f6
  by_cases hte : t1 = good
  case' pos =>
    have J1 : joinV (out.set a t1) = (m'.data.toList, 0) := by rw [hte, HK.out.2.2.1]; exact HG.out.2.2.2.2.2.1
    have cJ := join_at (c := c9) (out.set a t1) (HK.out.1 t1) (by omega) _ J1 m' rfl 0 rfl _ (hI.keep hF) (hR.keep hF (by simp)) A9
    have bq := str_eq hte
    have HTE := Lib.hid hte
    clear hte J1 hc1 hd1
    go_upto_region 12 with (first
      | (go_at_call 22; refine cJ.mono ?_; clear cJ; rintro e w7 ⟨rfl, f7⟩; have hF := hF.trans f7; have A9 := f7.keep A9 (by simp))
      | fail)
    have hc1 := cell_set A9 HK.out.2.2.2
    go_upto_region 14 with (first
      | (go_at_call 13; refine (num26_any _ _).mono ?_; rintro _ w8 ⟨rfl, rfl⟩)
      | fail)
    clear f7 bq
  case' neg =>
    have hne : good.data.toList.take 43 ++ S8.data.toList ≠ good.data.toList := fun h => hte (by
      have : t1.data.toList = good.data.toList := by rw [hd1]; exact h
      rw [← ba_list t1, this, ba_list])
    have J1 : joinV (out.set a t1) = ([], 71) := HK.out.2.1 t1 71 (by rw [hd1]; exact spoil_sum _ _ HG.out.1 (by rw [ba_len]; exact HX.out.2.2) hne) (by decide)
    have cJ := join_at (c := c9) (out.set a t1) (HK.out.1 t1) (by omega) _ J1 ⟨#[]⟩ rfl 71 rfl _ (hI.keep hF) (hR.keep hF (by simp)) A9
    have bq := str_neq hte
    have HTE := Lib.hid hte
    clear hte hne J1 hc1 hd1
    go_upto_region 12 with (first
      | (go_at_call 22; refine cJ.mono ?_; clear cJ; rintro e w7 ⟨rfl, f7⟩; have hF := hF.trans f7; have A9 := f7.keep A9 (by simp))
      | fail)
    have hc1 := cell_set A9 HK.out.2.2.2
    go_upto_region 14 with (first
      | (go_at_call 13; refine (num26_any _ _).mono ?_; rintro _ w8 ⟨rfl, rfl⟩)
      | fail)
    clear f7 bq
  all_goals
    obtain ⟨t2, ht2⟩ : ∃ t, t = good.extract 0 50 := ⟨_, rfl⟩
    have e50 : good.extract 0 50 = t2 := ht2.symm
    have fz9 := A9.frozen a
    have HT2 := Lib.hid ht2
    clear ht2
    go_upto_region 15 with fail
    have A9 := At.put t2 A9 HK.out.2.2.2
    have hF := hF.new (Fr.setCell [g9] _ ⟨g9, a, none⟩ (.string t2) (.inl (by simp))) (by simp; exact hg9)
    generalize w7.setCell ⟨g9, a, none⟩ (.string t2) = W7 at A9 hF ⊢
    have J2 := HK.out.2.1 t2 70 (isE_size (by rw [HT2.out, ba_take, List.length_take, HG.out.2.1]; decide)) (by decide)
    have cJ := join_at (c := c9) (out.set a t2) (HK.out.1 t2) (by omega) _ J2 ⟨#[]⟩ rfl 70 rfl _ (hI.keep hF) (hR.keep hF (by simp)) A9
    clear J2 fz9 e50 hc1
    go_upto_region 16 with (first
      | (go_at_call 22; refine cJ.mono ?_; clear cJ; rintro e w8 ⟨rfl, f8⟩; have hF := hF.trans f8; have A9 := f8.keep A9 (by simp))
      | fail)
    obtain ⟨t3, ht3⟩ : ∃ t, t = good ++ ⟨#[120]⟩ := ⟨_, rfl⟩
    have e52 : good ++ ⟨#[120]⟩ = t3 := ht3.symm
    have fz9 := A9.frozen a
    have hc1 := cell_set A9 HK.out.2.2.2
    have HT3 := Lib.hid ht3
    clear ht3 f8
    have k3 : ¬ 9223372036854775807 < good.size + (⟨#[120]⟩ : ByteArray).size := by rw [hgs]; decide
    go_upto_region 17 with fail
    have A9 := At.put t3 A9 HK.out.2.2.2
    have hF := hF.new (Fr.setCell [g9] _ ⟨g9, a, none⟩ (.string t3) (.inl (by simp))) (by simp; exact hg9)
    generalize w8.setCell ⟨g9, a, none⟩ (.string t3) = W8 at A9 hF ⊢
    have J3 := HK.out.2.1 t3 70 (isE_size (by rw [HT3.out, ba_app, List.length_append, HG.out.2.1]; decide)) (by decide)
    have cJ := join_at (c := c9) (out.set a t3) (HK.out.1 t3) (by omega) _ J3 ⟨#[]⟩ rfl 70 rfl _ (hI.keep hF) (hR.keep hF (by simp)) A9
    clear J3 fz9 e52 hc1 k3
    go_upto_region 19 with (first
      | (go_at_call 22; refine cJ.mono ?_; clear cJ; rintro e w9 ⟨rfl, f9⟩; have hF := hF.trans f9; have A9 := f9.keep A9 (by simp))
      | (go_at_call 27; refine (cN _).mono ?_; clear cN; rintro e w10 ⟨r, hr3, hr4, rfl, f10⟩; have hF := hF.trans f10; have A9 := f10.keep A9 (by simp); have wr1 : IntKind.i64.wrap (r + 1) = r + 1 := IntWalk.i64_in _ (by omega))
      | fail)
    clear f9 f10
    by_cases hr : r = 255
    case' pos =>
      have z1 : (255 : Int) < r + 1 := by omega
      go_upto_region 21 with fail
      obtain ⟨X, hX⟩ : ∃ X : Int, X = 0 := ⟨0, rfl⟩
      have e0 : Value.int .i64 0 = .int .i64 X := by rw [hX]
      rw [e0]
      obtain ⟨xb, hxb⟩ : ∃ xb : UInt8, xb = 0 := ⟨0, rfl⟩
      have hw : IntKind.u8.wrap X = bt xb := by rw [hX, hxb]; decide
      have hbad : ¬ (1 ≤ xb.toNat ∧ xb.toNat ≤ 16) := by rw [hxb]; decide
      clear e0 hX hxb z1
    case' neg =>
      have z1 : ¬ (255 : Int) < r + 1 := by omega
      go_upto_region 21 with fail
      obtain ⟨X, hX⟩ : ∃ X : Int, X = r + 1 := ⟨_, rfl⟩
      rw [← hX]
      obtain ⟨xb, hxb⟩ : ∃ xb : UInt8, xb = UInt8.ofNat (r.toNat + 1) := ⟨_, rfl⟩
      have hw : IntKind.u8.wrap X = bt xb := by
        rw [hX, hxb, show r + 1 = ((r.toNat + 1 : Nat) : Int) by omega]
        exact ofNat_wrap _ (by omega)
      have hbad : ¬ (1 ≤ xb.toNat ∧ xb.toNat ≤ 16) := by rw [hxb]; simp; omega
      clear hX hxb z1
    all_goals
      have HB2 := Lib.hid hbad
      obtain ⟨xs, hxs⟩ : ∃ xs : ByteArray, xs = ⟨#[xb]⟩ := ⟨_, rfl⟩
      have hcv : ∀ w' g, At w' g 5 [.int .u8 (bt xb)] → (convert 55 9 (.slice (some ⟨g, 0, none⟩) 1 1)).run Tryd.prog w' = .ok (.string xs) w' := fun w' g h => by
        rw [hxs]; exact run_strB (P := Tryd.prog) (d := 9) Tryd.underlying55 Tryd.underlying5 Tryd.underlying9 w' g 0 1 5 [xb] [] [] h rfl 1 rfl
      obtain ⟨H1, hH1⟩ : ∃ t, t = good.extract 0 1 := ⟨_, rfl⟩
      obtain ⟨H2, hH2⟩ : ∃ t, t = good.extract 2 43 := ⟨_, rfl⟩
      have e1 : good.extract 0 1 = H1 := hH1.symm
      have e2 : good.extract 2 43 = H2 := hH2.symm
      obtain ⟨B, hB⟩ : ∃ B, B = H1 ++ xs ++ H2 := ⟨_, rfl⟩
      have hBl : B.data.toList = good.data.toList.take 1 ++ [xb] ++ (good.data.toList.drop 2).take 41 := by
        rw [hB, ba_app, ba_app, hH1, hH2, ba_take, ba_mid _ _ _ (by omega), hxs]
      obtain ⟨hB43, hBE⟩ := spoil_num _ _ xb HG.out.1 hBl hbad
      have hBs : B.size = 43 := by rw [← ba_len]; exact hB43
      have hH1s : H1.size = 1 := by rw [hH1, ByteArray.size_extract]; omega
      have hH2s : H2.size = 41 := by rw [hH2, ByteArray.size_extract]; omega
      have hxss : xs.size = 1 := by rw [hxs]; rfl
      have k4 : ¬ 9223372036854775807 < H1.size + xs.size := by omega
      have k5 : ¬ 9223372036854775807 < H1.size + xs.size + H2.size := by omega
      have cSum := fun w g h1 h2 h3 => sum_one B (by omega) w g h1 h2 h3
      obtain ⟨S, hS⟩ : ∃ S : ByteArray, S = ⟨(shaL B.data.toList).toArray⟩ := ⟨_, rfl⟩
      rw [← hS] at cSum
      have hSs : S.size = 32 := by rw [hS]; show (shaL _).toArray.size = 32; rw [List.size_toArray, shaL_len]
      obtain ⟨E8, hE8⟩ : ∃ E, E = S.extract 0 8 := ⟨_, rfl⟩
      have e8 : S.extract 0 8 = E8 := hE8.symm
      have hE8s : E8.size = 8 := by rw [hE8, ByteArray.size_extract]; omega
      have k6 : ¬ 9223372036854775807 < B.size + E8.size := by omega
      have ht4 : (B ++ E8).data.toList = B.data.toList ++ (shaL B.data.toList).take 8 := by rw [ba_app, hE8, ba_take, hS]
      have HBB := Lib.hid (And.intro hB (And.intro ht4 hBE))
      clear hB ht4 hBE hBl hB43 hH1 hH2 hxs hH1s hH2s hxss hS hE8 hbad
      refine wp_region_until (fun _ => True) (fun _ => True) 1000 (by rfl) ?_
      have s0 : True := trivial
      have A9 := A9.drew
      have hF := hF.trans (Fr.drew [] _)
      generalize w10.drew = W10 at A9 hF ⊢
      refine until_s0 0 (v := ?_) rfl (by kernel_rfl) (fun _ _ _ h => h) (Or.inl ⟨by rfl, ?_⟩) (by assumption) (fun h => by first | assumption | exact absurd (h : true = false) (by decide)) ?_
      rotate_left
      · intro w hSw; (try dsimp only at hSw); (try go_simp); (try with_reducible rfl)
      try simp only [Act.put, List.setIfInBounds_toArray, List.set_cons_zero, List.set_cons_succ]
      refine until_s0 1 (v := ?_) rfl (by kernel_rfl) (fun _ _ _ h => h) (Or.inl ⟨by rfl, ?_⟩) (by assumption) (fun h => by first | assumption | exact absurd (h : true = false) (by decide)) ?_
      rotate_left
      · intro w hSw; (try dsimp only at hSw); (try go_simp); (try with_reducible rfl)
      try simp only [Act.put, List.setIfInBounds_toArray, List.set_cons_zero, List.set_cons_succ]
      refine until_s0 2 (v := ?_) rfl (by kernel_rfl) (fun _ _ _ h => h) (Or.inl ⟨by rfl, ?_⟩) (by assumption) (fun h => by first | assumption | exact absurd (h : true = false) (by decide)) ?_
      rotate_left
      · intro w hSw; (try dsimp only at hSw); (try go_simp); (try with_reducible rfl)
      try simp only [Act.put, List.setIfInBounds_toArray, List.set_cons_zero, List.set_cons_succ]
      refine until_s0 3 (v := ?_) rfl (by kernel_rfl) (fun _ _ _ h => h) (Or.inl ⟨by rfl, ?_⟩) (by assumption) (fun h => by first | assumption | exact absurd (h : true = false) (by decide)) ?_
      rotate_left
      · intro w hSw; (try dsimp only at hSw); (try go_simp); (try with_reducible rfl)
      try simp only [Act.put, List.setIfInBounds_toArray, List.set_cons_zero, List.set_cons_succ]
      refine until_s0 7 (v := ?_) rfl (by kernel_rfl) (fun _ _ _ h => h) (Or.inl ⟨by rfl, ?_⟩) (by assumption) (fun h => by first | assumption | exact absurd (h : true = false) (by decide)) ?_
      rotate_left
      · intro w hSw; (try dsimp only at hSw); (try go_simp); (try with_reducible rfl)
      try simp only [Act.put, List.setIfInBounds_toArray, List.set_cons_zero, List.set_cons_succ]
      refine until_s0 8 (v := ?_) rfl (by kernel_rfl) (fun _ _ _ h => h) (Or.inl ⟨by rfl, ?_⟩) (by assumption) (fun h => by first | assumption | exact absurd (h : true = false) (by decide)) ?_
      rotate_left
      · intro w hSw; (try dsimp only at hSw); (try go_simp); (try with_reducible rfl)
      try simp only [Act.put, List.setIfInBounds_toArray, List.set_cons_zero, List.set_cons_succ]
      refine until_sole 4 rfl (by kernel_rfl) (by rfl) ?_
      intro K' hK
      go_simp
      have A9 := A9.alloc (.cells #[.int .u8 (bt xb)] 5)
      have A3 := At.alloc_new W10 5 #[Value.int .u8 (bt xb)]
      have hF := hF.trans (Fr.alloc [] W10 (.cells #[.int .u8 (bt xb)] 5))
      refine hK _ _ trivial (fun _ => trivial) ?_
      clear hK
      have hcv1 := hcv _ _ A3
      refine until_sole 5 rfl (by kernel_rfl) (by rfl) ?_
      intro K' hK
      go_simp
      refine hK _ _ trivial (fun _ => trivial) ?_
      clear hK hcv1 hcv
      generalize W10.alloc (.cells #[.int .u8 (bt xb)] 5) = W11 at A9 hF ⊢
      refine until_s0 6 (v := ?_) rfl (by kernel_rfl) (fun _ _ _ h => h) (Or.inl ⟨by rfl, ?_⟩) (by assumption) (fun h => by first | assumption | exact absurd (h : true = false) (by decide)) ?_
      rotate_left
      · intro w hSw; (try dsimp only at hSw); (try go_simp); (try with_reducible rfl)
      try simp only [Act.put, List.setIfInBounds_toArray, List.set_cons_zero, List.set_cons_succ]
      refine until_s0 9 (v := ?_) rfl (by kernel_rfl) (fun _ _ _ h => h) (Or.inl ⟨by rfl, ?_⟩) (by assumption) (fun h => by first | assumption | exact absurd (h : true = false) (by decide)) ?_
      rotate_left
      · intro w hSw; (try dsimp only at hSw); (try go_simp); (try with_reducible rfl)
      try simp only [Act.put, List.setIfInBounds_toArray, List.set_cons_zero, List.set_cons_succ]
      refine until_s0 10 (v := ?_) rfl (by kernel_rfl) (fun _ _ _ h => h) (Or.inl ⟨by rfl, ?_⟩) (by assumption) (fun h => by first | assumption | exact absurd (h : true = false) (by decide)) ?_
      rotate_left
      · intro w hSw; (try dsimp only at hSw); (try go_simp); (try with_reducible rfl)
      try simp only [Act.put, List.setIfInBounds_toArray, List.set_cons_zero, List.set_cons_succ]
      refine until_done (by kernel_rfl) ?_ _
      rw [← HBB.out.1]
      clear k4 k5 e1 e2 A3
      have fz9 := (A9.alloc (.cells #[.string B] 9)).frozen a
      have hc1 := cell_set (A9.alloc (.cells #[.string B] 9)) HK.out.2.2.2
      have hF1 := hF.trans (Fr.alloc [] W11 (.cells #[.string B] 9))
      have A1 := A9.alloc (.cells #[.string B] 9)
      have AB := At.alloc_new W11 9 #[Value.string B]
      go_upto_region 23 with (first
        | (go_at_call 29; refine (cSum _ _ (hI.keep hF1) (hR.keep hF1 (by simp)) AB).mono ?_; clear cSum; rintro e w12 ⟨rfl, f12⟩; have hF := hF1.trans f12; have A9 := f12.keep A1 (by simp); have fz9 := A9.frozen a; have hc1 := cell_set A9 HK.out.2.2.2)
        | fail)
      obtain ⟨t4, ht4⟩ : ∃ t, t = B ++ E8 := ⟨_, rfl⟩
      rw [← ht4]
      have A9 := At.put t4 A9 HK.out.2.2.2
      have hF := hF.new (Fr.setCell [g9] _ ⟨g9, a, none⟩ (.string t4) (.inl (by simp))) (by simp; exact hg9)
      generalize w12.setCell ⟨g9, a, none⟩ (.string t4) = W12 at A9 hF ⊢
      have J4 := HK.out.2.1 t4 72 (by rw [ht4, HBB.out.2.1]; exact HBB.out.2.2) (by decide)
      have cJ := join_at (c := c9) (out.set a t4) (HK.out.1 t4) (by omega) _ J4 ⟨#[]⟩ rfl 72 rfl _ (hI.keep hF) (hR.keep hF (by simp)) A9
      clear J4 ht4 fz9 hc1 k6 e8 hF1 A1 AB
      go_wp2_with (first
        | (go_at_call 13; refine (num26_any _ _).mono ?_; rintro _ w14 ⟨rfl, rfl⟩)
        | (go_at_call 22; refine cJ.mono ?_; clear cJ; rintro e w13 ⟨rfl, f13⟩; have hF := hF.trans f13)
        | fail)
      go_ret
      exact ⟨rfl, hF⟩
end Go.Proofs.YtffhfmaphjjffaaDoor
