/- The law ShaSums walked. -/
import Derived.Test.YtkagmoaapampgaaDoorRef2E
import Derived.Test.YtkagmoaapampgaaDoorMarked
import Derived.Test.YtkagmoaapampgaaDoorTexts
import Derived.Test.YtkagmoaapampgaaDoorUntil
namespace Go.Proofs.YtkagmoaapampgaaDoor
open Go.RowKit Go.Lib Go.Joins Base
set_option linter.unusedVariables false
set_option linter.unusedSimpArgs false

theorem Texts.take {w : World} {ad : Option Addr} {ps qs : List ByteArray} (h : Texts w ad (ps ++ qs)) : Texts w ad ps := by
  intro j s hj
  have hlt : j < ps.length := by
    rcases Nat.lt_or_ge j ps.length with h' | h'
    · exact h'
    · rw [List.getElem?_eq_none h'] at hj; cases hj
  exact h j s (by rw [List.getElem?_append_left hlt]; exact hj)
theorem Texts.cell {w : World} {g o : Nat} {ps : List ByteArray} (h : Texts w (some ⟨g, o, none⟩) ps) (i : Nat) (hi : i < ps.length) : w.cell? ⟨g, o + i, none⟩ = some (.string ps[i]) := by
  obtain ⟨g', o', e, hc⟩ := h i ps[i] (by simp [hi])
  injection e with e
  injection e with e1 e2
  subst e1 e2
  exact hc

set_option maxRecDepth 100000 in
set_option maxHeartbeats 1000000 in
theorem still_any (ps : List ByteArray) (ad : Option Addr) (cap : Nat) (g c : Nat) (hn : ps.length ≤ 4294967296) (w : World) (hp : Texts w ad ps) (hl : Texts w (some ⟨g, 0, none⟩) (ps ++ marks)) :
    Calls Tryd.prog 13 #[.slice (some ⟨g, 0, none⟩) (ps.length + 3) c, .slice ad ps.length cap] w fun e w' => e = .returned (.bool true) ∧ Fr [] w w' := by
  have m0 := hl.cell ps.length (by simp [marks])
  have m1 := hl.cell (ps.length + 1) (by simp [marks])
  have m2 := hl.cell (ps.length + 2) (by simp [marks])
  have e0 : (ps ++ marks)[ps.length]'(by simp [marks]) = ⟨#[109, 97, 114, 107, 32, 49]⟩ := by simp [marks]
  have e1 : (ps ++ marks)[ps.length + 1]'(by simp [marks]) = ⟨#[109, 97, 114, 107, 32, 50]⟩ := by rw [List.getElem_append_right (by omega)]; simp [marks]
  have e2 : (ps ++ marks)[ps.length + 2]'(by simp [marks]) = ⟨#[109, 97, 114, 107, 32, 51]⟩ := by rw [List.getElem_append_right (by omega)]; simp [marks]
  rw [e0, Nat.zero_add] at m0
  rw [e1, Nat.zero_add] at m1
  rw [e2, Nat.zero_add] at m2
  have w3 : IntKind.i64.wrap ((ps.length : Int) + 3) = (ps.length : Int) + 3 := IntWalk.i64_in _ (by omega)
  have w1 : IntKind.i64.wrap ((ps.length : Int) + 1) = (ps.length : Int) + 1 := IntWalk.i64_in _ (by omega)
  have w2 : IntKind.i64.wrap ((ps.length : Int) + 2) = (ps.length : Int) + 2 := IntWalk.i64_in _ (by omega)
  have k0 : (ps.length : Int) < (ps.length : Int) + 3 := by omega
  have k1 : (ps.length : Int) + 1 < (ps.length : Int) + 3 := by omega
  have k2 : (ps.length : Int) + 2 < (ps.length : Int) + 3 := by omega
  have p1 : (0 : Int) ≤ (ps.length : Int) + 1 := by omega
  have p2 : (0 : Int) ≤ (ps.length : Int) + 2 := by omega
  have t1 : ((ps.length : Int) + 1).toNat = ps.length + 1 := by omega
  have t2 : ((ps.length : Int) + 2).toNat = ps.length + 2 := by omega
  clear e0 e1 e2
  go_enter Tryd.func13, Tryd.ntmps13
  go_wp2_with fail
  clear m0 m1 m2 w3 w1 w2 k0 k1 k2 p1 p2 t1 t2
  go_loopw [6] (fun v wr => ∃ i : Nat, i ≤ ps.length ∧ v = .int .i64 i ∧ Texts wr ad ps ∧ Texts wr (some ⟨g, 0, none⟩) (ps ++ marks) ∧ Fr [] w wr) (fun v _ => ps.length - (intOf v).toNat)
  case atStart => exact ⟨0, by omega, rfl, hp, hl, Fr.refl _ _⟩
  case round =>
    clear hp hl
    obtain ⟨i, hi, rfl, hp, hq, hF⟩ := hrel
    by_cases hl : i < ps.length
    · have l1 : (i : Int) < ps.length := by omega
      have l2 : (i : Int) < (ps.length : Int) + 3 := by omega
      obtain ⟨g', o', rfl, hc⟩ := hp i ps[i] (by simp [hl])
      have hd := hq.cell i (by simp; omega)
      rw [List.getElem_append_left hl, Nat.zero_add] at hd
      generalize ps[i] = d at hc hd
      go_wp2_with fail
      go_region
      go_wp2_with fail
      refine ⟨⟨i + 1, by omega, by simp, hp.keep (Fr.drew _ _), hq.keep (Fr.drew _ _), hF.trans (Fr.drew _ _)⟩, by simp only [intOf]; omega⟩
    · obtain rfl : i = ps.length := by omega
      go_wp2_with fail
      go_ret
      exact ⟨rfl, hF⟩

/-- A text changed at its head. -/
def bump (d : ByteArray) : ByteArray := if d.size = 0 then ⟨#[120]⟩ else ⟨#[d.data.toList.getD 0 0 ^^^ 1]⟩ ++ d.extract 1 d.size
theorem bump_size (d : ByteArray) : (bump d).size ≤ d.size + 1 := by
  unfold bump
  by_cases h : d.size = 0
  · rw [if_pos h]; show 1 ≤ _; omega
  · rw [if_neg h, ByteArray.size_append, ByteArray.size_extract]; show 1 + _ ≤ _; omega
theorem joinL_bump : ∀ (ps : List ByteArray), (joinL (ps.map bump)).length ≤ bulkL ps
  | [] => by simp [joinL, bulkL]
  | p :: r => by
    have h1 := joinL_bump r
    have h2 := bump_size p
    have h3 : (bump p).data.toList.length = (bump p).size := by simp
    simp [joinL, bulkL] at h1 h3 ⊢; omega

theorem tcells_get (ps : List ByteArray) (i : Nat) (h : i < ps.length) : (tcells ps)[i]? = some (.string ps[i]) := by simp [tcells, h]

theorem texts_own {w : World} {base n : Nat} {e : TypeId} {v : Value} {ps : List ByteArray} (h : w.ownsRow base e 1 v n (tcells ps)) (hn : ps.length = n) : ∃ ad c, v = .slice ad n c ∧ Texts w ad ps := by
  obtain ⟨_, ⟨rfl, rfl⟩ | ⟨g, cap, cur, rfl, hb, hg, _, _, _, ht⟩⟩ := h
  · exact ⟨none, 0, rfl, fun j s hj => by rw [List.eq_nil_of_length_eq_zero hn] at hj; cases hj⟩
  · refine ⟨_, _, rfl, fun j s hj => ⟨g, 0, rfl, ?_⟩⟩
    have hjl : j < ps.length := by
      rcases Nat.lt_or_ge j ps.length with h' | h'
      · exact h'
      · rw [List.getElem?_eq_none h'] at hj; cases hj
    have hA : At w g e cur.toList := by unfold At; rw [hg]
    have e1 : (cur.toList.take (n * 1))[j]? = cur.toList[j]? := by rw [List.getElem?_take, if_pos (by omega)]
    rw [Nat.zero_add, hA.cell j, ← e1, ht, tcells, List.getElem?_map, hj]; rfl

set_option maxRecDepth 100000 in
set_option maxHeartbeats 4000000 in
theorem sums_law {H : Type} {d0 : DataW H} {w : World} (v : Value) (ps : List ByteArray) (hv : IsT w v ps ∧ (Rows.uptoSmall H [d0] = true → bulkL ps ≤ 1048576)) (hk : Rows.uptoSmall H [d0] = true) (hQ : RefRoots w) (hP : Powers w) (hI : First w) (hR : Roots w) :
    Calls Tryd.prog 3 #[v] w fun e w' => e = .returned (.bool true) ∧ Fr [] w w' := by
  obtain ⟨⟨ad, cap, rfl, hcap, hp, h16⟩, hb⟩ := hv
  have hbulk := hb hk
  have hjb := joinL_bulk ps
  have hn : ps.length ≤ 1048576 := by omega
  have hj : (joinL ps).length ≤ 1048576 := by omega
  have hjb2 := joinL_bump ps
  have hi5 : (Tryd.prog.info? 9).map (fun i => (i.zero, i.size, i.bytes)) = some (some (.string ⟨#[]⟩), 1, 16) := by kernel_rfl
  obtain ⟨iI, hiI, hz0, hz1, hz2⟩ := info_parts hi5
  have cMk := marked_any ps ad cap (by omega) w hp
  have cL : ∀ w' g c, First w' → Roots w' → Texts w' (some ⟨g, 0, none⟩) ps → Calls Tryd.prog 10 #[.slice (some ⟨g, 0, none⟩) ps.length c] w' fun e w'' => e = .returned (.string ⟨(shaL (joinL ps)).toArray⟩) ∧ Fr [] w' w'' := fun w' g c h1 h2 h3 => sum_any ps _ c (by omega) (by omega) w' h1 h2 h3
  have cJ : ∀ w', Texts w' ad ps → _ := fun w' h => rjoin_any ps ad cap (by omega) (by omega) w' h
  have cR : ∀ w', Powers w' → RefRoots w' → Calls Tryd.prog 12 #[.string ⟨(joinL ps).toArray⟩] w' fun e w'' => e = .returned (.string ⟨(shaL (joinL ps)).toArray⟩) ∧ Fr [] w' w'' := fun w' h1 h2 => rsum_any ⟨(joinL ps).toArray⟩ (by show (joinL ps).toArray.size ≤ _; rw [List.size_toArray]; omega) w' h1 h2
  generalize (⟨(shaL (joinL ps)).toArray⟩ : ByteArray) = X1 at cL cR
  generalize (⟨(joinL ps).toArray⟩ : ByteArray) = J1 at cJ cR
  have hF0 := Fr.refl [] w
  have HB := Lib.hid (And.intro hbulk (And.intro hjb hjb2))
  have mk1 : True := trivial
  clear hb hbulk hjb hjb2 hk
  go_enter Tryd.func3, Tryd.ntmps3
  go_wp2_with (first
    | (go_at_call 9; refine cMk.mono ?_; clear cMk; rintro e wm ⟨gm, cm, rfl, om, bm⟩; have hcm := own_cap om; have hcm1 : (ps.length : Int) + 3 ≤ cm := (by omega); have hcm2 : (ps.length : Int) ≤ cm := (by omega); have hTm : Texts wm (some ⟨gm, 0, none⟩) (ps ++ marks) := Texts.ofOwn om; have hF := Fr.ofBelow bm)
    | (go_at_call 10; clear mk1; refine (cL _ _ _ (hI.keep hF) (hR.keep hF (by simp)) hTm.take).mono ?_; rintro e w1 ⟨rfl, f1⟩; have hF := hF.trans f1; have hTm := hTm.keep f1)
    | (go_at_call 11; refine (cJ _ (hp.keep hF)).mono ?_; rintro e w2 ⟨rfl, f2⟩; have hF := hF.trans f2; have hTm := hTm.keep f2)
    | (go_at_call 12; refine (cR _ (hP.keep hF) (hQ.keep hF)).mono ?_; rintro e w3 ⟨rfl, f3⟩; have hF := hF.trans f3; have hTm := hTm.keep f3)
    | (go_at_call 13; refine (still_any ps ad cap gm cm (by omega) _ (hp.keep hF) hTm).mono ?_; rintro e w4 ⟨rfl, f4⟩; have hF := hF.trans f4; have om4 := own_fr (own_fr (own_fr (own_fr om f1 (by simp)) f2 (by simp)) f3 (by simp)) f4 (by simp))
    | fail)
  obtain ⟨cs0, hcs0, hgm, htk0⟩ : ∃ cs, At w4 gm 9 cs ∧ w.heap.size ≤ gm ∧ cs.take ps.length = tcells ps := by
    obtain ⟨_, ⟨h, _⟩ | ⟨g', cap', cur, hv, hb', hg, _, _, _, ht⟩⟩ := om4
    · simp at h
    · simp only [Value.slice.injEq, Option.some.injEq, Addr.mk.injEq, and_true] at hv
      obtain ⟨rfl, _⟩ := hv
      refine ⟨cur.toList, by unfold At; rw [hg], hb', ?_⟩
      have h2 := congrArg (List.take ps.length) ht
      rw [List.take_take] at h2
      rw [show min ps.length ((ps.length + 3) * 1) = ps.length by omega] at h2
      rw [h2]
      simp [tcells]
  have hgB : gm < w4.heap.size := hcs0.lt
  clear om4 f1 f2 f3 f4 om bm hTm cJ cR cL
  generalize hB0 : w4.heap.size = B at hgB
  go_loopw [6, 7] (fun v6 v7 wr => ∃ (i : Nat) (cs : List Value), i ≤ ps.length ∧ v7 = .int .i64 i ∧ At wr gm 9 cs ∧ cs.take ps.length = tcells ((ps.take i).map bump ++ ps.drop i) ∧ wr.ownsRow B 9 1 v6 i (tcells ((ps.take i).map bump)) ∧ B ≤ wr.heap.size ∧ Fr [] w wr) (fun _ v _ => ps.length - (intOf v).toNat)
  case atStart => exact ⟨0, cs0, by omega, rfl, hcs0, by simpa using htk0, World.ownsRow_nil _ _ _ _, by omega, hF⟩
  case round =>
    clear hcs0 htk0 hF hB0
    obtain ⟨i, cs, hi, rfl, hA, htk, h0, hBs, hF⟩ := hrel
    by_cases hl : i < ps.length
    · have l1 : (i : Int) < ps.length := by omega
      have l2 : (i : Int) < (ps.length : Int) + 3 := by omega
      have hlA : ((ps.take i).map bump).length = i := by simp; omega
      have hci : cs[i]? = some (.string ps[i]) := by
        have h1 : (cs.take ps.length)[i]? = cs[i]? := by rw [List.getElem?_take, if_pos hl]
        rw [← h1, htk, tcells, List.getElem?_map, List.getElem?_append_right (by omega), hlA, Nat.sub_self, List.getElem?_drop, Nat.add_zero, List.getElem?_eq_getElem hl]; rfl
      obtain ⟨d, hdi⟩ : ∃ d, d = ps[i] := ⟨_, rfl⟩
      have hset : (cs.set i (.string (bump d))).take ps.length = tcells ((ps.take (i + 1)).map bump ++ ps.drop (i + 1)) := by
        rw [hdi]
        rw [List.take_set, htk, List.take_add_one, List.getElem?_eq_getElem hl]
        unfold tcells
        rw [List.map_append, List.set_append_right _ _ (by simp; omega), List.length_map, hlA, Nat.sub_self, List.drop_eq_getElem_cons hl]
        simp only [List.map_append, List.map_cons, List.map_nil, List.set_cons_zero, Option.toList, List.append_assoc, List.cons_append, List.nil_append]
      have hnow : tcells ((ps.take (i + 1)).map bump) = tcells ((ps.take i).map bump) ++ tcells [bump d] := by
        rw [hdi, List.take_add_one, List.getElem?_eq_getElem hl]; simp only [tcells, Option.toList, List.map_append, List.map_cons, List.map_nil]
      have c := hA.cell i
      rw [hci, ← hdi] at c
      have fz := hA.frozen i
      have hsz : d.size ≤ 1048576 := by
        have b1 := bulkL_take ps i hl
        have b2 := bulkL_le ps (i + 1)
        have b3 := HB.out.1
        rw [hdi]; omega
      clear hdi
      by_cases hd : d.size = 0
      · obtain rfl : d = ⟨#[]⟩ := by
          apply ByteArray.ext
          apply Array.eq_empty_of_size_eq_zero
          exact hd
        have hbp : bump ⟨#[]⟩ = ⟨#[120]⟩ := rfl
        rw [hbp] at hset hnow
        have HS := Lib.hid (And.intro hset hnow)
        have hA2 : At ((wr.setCell ⟨gm, i, none⟩ (.string ⟨#[120]⟩)).alloc (.cells #[.string ⟨#[120]⟩] 9)) wr.heap.size 9 [.string ⟨#[120]⟩] := by
          have := At.alloc_new (wr.setCell ⟨gm, i, none⟩ (.string ⟨#[120]⟩)) 9 #[.string ⟨#[120]⟩]; simpa [World.setCell] using this
        have h1 := World.ownsRow.alloc (ownsRow_setCell_below h0 (a := ⟨gm, i, none⟩) hgB (.string ⟨#[120]⟩)) (.cells #[.string ⟨#[120]⟩] 9)
        clear hset hnow htk hci hlA hd hbp
        go_wp2_with (first
          | (at_builtin; refine wpList_append_own _ rfl _ _ _ rfl B 9 iI (.string ⟨#[]⟩) 1 16 Tryd.underlying22 hiI hz0 hz1 hz2 rfl (by decide) _ i _ rfl h1 ⟨wr.heap.size, 0, none⟩ 1 1 (tcells [⟨#[120]⟩]) rfl rfl (by intro j u hj; rw [addr_add', Nat.zero_add]; exact (hA2.cell j).trans hj) (tcells_one _) (by simp [maxLen]; omega) (by omega) (by simp [World.setCell]; omega) ?_; intro v2 w2 o2 gr2 _)
          | fail)
        have f2 := Fr.ofGrown gr2 (S := u6.ownBlock.toList) (by intro k hk; rw [show u6.ownBlock = some k from hk]; simp)
        have hng : gm ∉ u6.ownBlock.toList := fun hx => by have := (h0.lt gm (by simpa using hx)).1; omega
        refine ⟨⟨i + 1, cs.set i (.string ⟨#[120]⟩), by omega, by simp, f2.keep ((hA.setCell i _).alloc _) hng, HS.out.1, by rw [HS.out.2]; exact o2, by have := f2.size; simp [World.setCell] at this; omega, ?_⟩, by simp only [intOf]; omega⟩
        exact hF.new (S := gm :: u6.ownBlock.toList) (((Fr.setCell _ wr ⟨gm, i, none⟩ _ (.inl (by simp))).trans (Fr.alloc _ _ _)).trans (f2.mono (fun x hx _ => List.mem_cons_of_mem _ hx))) (fun x hx => by rcases List.mem_cons.1 hx with rfl | hx <;> first | exact hgm | (have := (h0.lt x (by simpa using hx)).1; omega))
      · have hne : ¬ d = ⟨#[]⟩ := by rintro rfl; exact hd rfl
        have hne2 : d.toList.isEmpty = false := by
          rw [ByteArray.toList_eq]
          cases hl0 : d.data.toList with
          | nil => exact absurd (by rw [← Array.length_toList, hl0]; rfl : d.data.size = 0) hd
          | cons _ _ => rfl
        obtain ⟨x, hx⟩ : ∃ x, x = d.data.toList.getD 0 0 := ⟨_, rfl⟩
        have hdl : d.data.toList.length = d.size := by simp
        have gx : d[0]'(Nat.pos_of_ne_zero hd) = x := bget _ (by have hp0 : 0 < d.data.size := (by show 0 < d.size; omega); rw [hx, List.getD, Array.getElem?_toList, Array.getElem?_eq_getElem hp0]; rfl)
        have hbp : bump d = ⟨#[x ^^^ 1]⟩ ++ d.extract 1 d.size := by rw [hx]; exact if_neg hd
        have hex : (d.extract 1 d.size).size = d.size - 1 := by rw [ByteArray.size_extract]; omega
        have d1 : (1 : Int) ≤ d.size := by omega
        have d0 : 0 < d.size := Nat.pos_of_ne_zero hd
        rw [hbp] at hset hnow
        obtain ⟨E, hE⟩ : ∃ E, E = d.extract 1 d.size := ⟨_, rfl⟩
        obtain ⟨A1, hA1⟩ : ∃ A1 : ByteArray, A1 = ⟨#[x ^^^ 1]⟩ := ⟨_, rfl⟩
        rw [← hE] at hset hnow hex
        rw [← hA1] at hset hnow
        have hadd : ¬ 9223372036854775807 < A1.size + E.size := by rw [hex, hA1]; show ¬ _ < 1 + _; omega
        have hcv : (convert 28 9 (.slice (some ⟨wr.heap.size, 0, none⟩) 1 1)).run Tryd.prog (wr.alloc (.cells #[.int .u8 (bt (x ^^^ 1))] 5)).drew = .ok (.string A1) (wr.alloc (.cells #[.int .u8 (bt (x ^^^ 1))] 5)).drew := by
          rw [hA1]
          exact run_strB (P := Tryd.prog) (d := 9) Tryd.underlying28 Tryd.underlying5 Tryd.underlying9 (wr.alloc (.cells #[.int .u8 (bt (x ^^^ 1))] 5)).drew wr.heap.size 0 1 5 [x ^^^ 1] [] [] (At.alloc_new wr 5 #[.int .u8 (bt (x ^^^ 1))]) rfl 1 rfl
        have hE' := hE.symm
        have x3 : ∀ t, binOp .xor t (.int .u8 (x.toNat : Int)) (.int .u8 1) = pure (.int .u8 (bt (x ^^^ 1))) := fun t => binOp_xor8 t x 1
        have hAd : At wr.drew gm 9 cs := hA
        have s2 := ((hAd.alloc (.cells #[.int .u8 (bt (x ^^^ 1))] 5)).cell i).trans ((hA.cell i).symm.trans c)
        have c3 := ((hA.alloc (.cells #[.int .u8 (bt (x ^^^ 1))] 5)).cell i).trans ((hA.cell i).symm.trans c)
        have fz2 := (hA.alloc (.cells #[.int .u8 (bt (x ^^^ 1))] 5)).frozen i
        have HS := Lib.hid (And.intro hset hnow)
        clear hset hnow htk hci hlA hbp hx hdl hex hA1 hE
        go_wp2_with fail
        refine wp_region_until (fun _ => True) (fun w' => w'.cell? ⟨gm, i, none⟩ = some (.string d)) 17 (by rfl) ?_
        have hT : True := trivial
        have s1 : wr.drew.cell? ⟨gm, i, none⟩ = some (.string d) := c
        have s1' := fun (_ : (false = false)) => s1
        refine until_s0 0 (v := ?_) rfl (by kernel_rfl) (fun _ _ _ h => h) (Or.inl ⟨by rfl, ?_⟩) (by assumption) (fun h => by first | assumption | exact absurd (h : true = false) (by decide)) ?_
        rotate_left
        · intro w hSw; (try dsimp only at hSw); (try go_simp); (try with_reducible rfl)
        try simp only [Act.put, List.setIfInBounds_toArray, List.set_cons_zero, List.set_cons_succ]
        refine until_s0 1 (v := ?_) rfl (by kernel_rfl) (fun _ _ _ h => h) (Or.inl ⟨by rfl, ?_⟩) (by assumption) (fun h => by first | assumption | exact absurd (h : true = false) (by decide)) ?_
        rotate_left
        · intro w hSw; (try dsimp only at hSw); (try go_simp); (try with_reducible rfl)
        try simp only [Act.put, List.setIfInBounds_toArray, List.set_cons_zero, List.set_cons_succ]
        refine until_s0 2 (v := ?_) rfl (by kernel_rfl) (fun _ _ _ h => h) (Or.inl ⟨by rfl, ?_⟩) (by assumption) (fun h => by first | assumption | exact absurd (h : true = false) (by decide)) ?_
        rotate_left
        · intro w hSw; (try dsimp only at hSw); (try go_simp); (try with_reducible rfl)
        try simp only [Act.put, List.setIfInBounds_toArray, List.set_cons_zero, List.set_cons_succ]
        refine until_s0 3 (v := ?_) rfl (by kernel_rfl) (fun _ _ _ h => h) (Or.inl ⟨by rfl, ?_⟩) (by assumption) (fun h => by first | assumption | exact absurd (h : true = false) (by decide)) ?_
        rotate_left
        · intro w hSw; (try dsimp only at hSw); (try go_simp); (try with_reducible rfl)
        try simp only [Act.put, List.setIfInBounds_toArray, List.set_cons_zero, List.set_cons_succ]
        refine until_s0 4 (v := ?_) rfl (by kernel_rfl) (fun _ _ _ h => h) (Or.inl ⟨by rfl, ?_⟩) (by assumption) (fun h => by first | assumption | exact absurd (h : true = false) (by decide)) ?_
        rotate_left
        · intro w hSw; (try dsimp only at hSw); (try go_simp); (try with_reducible rfl)
        try simp only [Act.put, List.setIfInBounds_toArray, List.set_cons_zero, List.set_cons_succ]
        refine until_s1 5 (v := ?_) rfl (by kernel_rfl) (fun _ _ _ h => h) (Or.inl ⟨by rfl, ?_⟩) (by assumption) (fun h => by first | assumption | exact absurd (h : true = false) (by decide)) ?_
        rotate_left
        · intro w hSw; (try dsimp only at hSw); (try go_simp); (try with_reducible rfl)
        try simp only [Act.put, List.setIfInBounds_toArray, List.set_cons_zero, List.set_cons_succ]
        refine until_s0 6 (v := ?_) rfl (by kernel_rfl) (fun _ _ _ h => h) (Or.inl ⟨by rfl, ?_⟩) (by assumption) (fun h => by first | assumption | exact absurd (h : true = false) (by decide)) ?_
        rotate_left
        · intro w hSw; (try dsimp only at hSw); (try go_simp); (try with_reducible rfl)
        try simp only [Act.put, List.setIfInBounds_toArray, List.set_cons_zero, List.set_cons_succ]
        refine until_s0 7 (v := ?_) rfl (by kernel_rfl) (fun _ _ _ h => h) (Or.inl ⟨by rfl, ?_⟩) (by assumption) (fun h => by first | assumption | exact absurd (h : true = false) (by decide)) ?_
        rotate_left
        · intro w hSw; (try dsimp only at hSw); (try go_simp); (try with_reducible rfl)
        try simp only [Act.put, List.setIfInBounds_toArray, List.set_cons_zero, List.set_cons_succ]
        refine until_s0 10 (v := ?_) rfl (by kernel_rfl) (fun _ _ _ h => h) (Or.inl ⟨by rfl, ?_⟩) (by assumption) (fun h => by first | assumption | exact absurd (h : true = false) (by decide)) ?_
        rotate_left
        · intro w hSw; (try dsimp only at hSw); (try go_simp); (try with_reducible rfl)
        try simp only [Act.put, List.setIfInBounds_toArray, List.set_cons_zero, List.set_cons_succ]
        refine until_s0 11 (v := ?_) rfl (by kernel_rfl) (fun _ _ _ h => h) (Or.inl ⟨by rfl, ?_⟩) (by assumption) (fun h => by first | assumption | exact absurd (h : true = false) (by decide)) ?_
        rotate_left
        · intro w hSw; (try dsimp only at hSw); (try go_simp); (try with_reducible rfl)
        try simp only [Act.put, List.setIfInBounds_toArray, List.set_cons_zero, List.set_cons_succ]
        refine until_s0 12 (v := ?_) rfl (by kernel_rfl) (fun _ _ _ h => h) (Or.inl ⟨by rfl, ?_⟩) (by assumption) (fun h => by first | assumption | exact absurd (h : true = false) (by decide)) ?_
        rotate_left
        · intro w hSw; (try dsimp only at hSw); (try go_simp); (try with_reducible rfl)
        try simp only [Act.put, List.setIfInBounds_toArray, List.set_cons_zero, List.set_cons_succ]
        refine until_s1 13 (v := ?_) rfl (by kernel_rfl) (fun _ _ _ h => h) (Or.inl ⟨by rfl, ?_⟩) (by assumption) (fun h => by first | assumption | exact absurd (h : true = false) (by decide)) ?_
        rotate_left
        · intro w hSw; (try dsimp only at hSw); (try go_simp); (try with_reducible rfl)
        try simp only [Act.put, List.setIfInBounds_toArray, List.set_cons_zero, List.set_cons_succ]
        refine until_s0 14 (v := ?_) rfl (by kernel_rfl) (fun _ _ _ h => h) (Or.inl ⟨by rfl, ?_⟩) (by assumption) (fun h => by first | assumption | exact absurd (h : true = false) (by decide)) ?_
        rotate_left
        · intro w hSw; (try dsimp only at hSw); (try go_simp); (try with_reducible rfl)
        try simp only [Act.put, List.setIfInBounds_toArray, List.set_cons_zero, List.set_cons_succ]
        refine until_sole 8 rfl (by kernel_rfl) (by rfl) ?_
        intro K' hK
        go_simp
        refine hK _ _ trivial (fun _ => s2) ?_
        clear hK s1 s1'
        have s1 := s2
        have s1' := fun (_ : (false = false)) => s1
        skip
        refine until_sole 9 rfl (by kernel_rfl) (by rfl) ?_
        intro K' hK
        go_simp
        refine hK _ _ trivial (fun _ => s2) ?_
        clear hK
        refine until_s0 15 (v := ?_) rfl (by kernel_rfl) (fun _ _ _ h => h) (Or.inl ⟨by rfl, ?_⟩) (by assumption) (fun h => by first | assumption | exact absurd (h : true = false) (by decide)) ?_
        rotate_left
        · intro w hSw; (try dsimp only at hSw); (try go_simp); (try with_reducible rfl)
        try simp only [Act.put, List.setIfInBounds_toArray, List.set_cons_zero, List.set_cons_succ]
        refine until_s0 16 (v := ?_) rfl (by kernel_rfl) (fun _ _ _ h => h) (Or.inl ⟨by rfl, ?_⟩) (by assumption) (fun h => by first | assumption | exact absurd (h : true = false) (by decide)) ?_
        rotate_left
        · intro w hSw; (try dsimp only at hSw); (try go_simp); (try with_reducible rfl)
        try simp only [Act.put, List.setIfInBounds_toArray, List.set_cons_zero, List.set_cons_succ]
        refine until_sole 17 rfl (by kernel_rfl) (by rfl) ?_
        intro K' hK
        go_simp
        refine hK _ _ trivial (fun h => absurd h (by decide)) ?_
        clear hK
        refine until_done (by kernel_rfl) ?_ _
        obtain ⟨W3, hW3⟩ : ∃ W3, W3 = (wr.alloc (.cells #[.int .u8 (bt (x ^^^ 1))] 5)).setCell ⟨gm, i, none⟩ (.string (A1 ++ E)) := ⟨_, rfl⟩
        rw [← hW3]
        have hA3 : At W3 gm 9 (cs.set i (.string (A1 ++ E))) := by rw [hW3]; exact (hA.alloc _).setCell i _
        have h3 : W3.ownsRow B 9 1 u6 i (tcells ((ps.take i).map bump)) := by rw [hW3]; exact ownsRow_setCell_below (World.ownsRow.alloc h0 _) (a := ⟨gm, i, none⟩) hgB _
        have f3 : Fr [gm] wr W3 := by rw [hW3]; exact (Fr.alloc _ _ _).trans (Fr.setCell _ _ ⟨gm, i, none⟩ _ (.inl (by simp)))
        have hic : i < cs.length := by
          rcases Nat.lt_or_ge i cs.length with h' | h'
          · exact h'
          · have := (hA.cell i).symm.trans c; rw [List.getElem?_eq_none h'] at this; cases this
        have c5 : W3.cell? ⟨gm, i, none⟩ = some (.string (A1 ++ E)) := by rw [hA3.cell i, List.getElem?_set_self hic]
        generalize hV : A1 ++ E = V at c5 HS hA3
        clear hW3 c3 fz2 s1 s1' s2 hcv c fz hAd hV
        have hA2 : At (W3.alloc (.cells #[.string V] 9)) W3.heap.size 9 [.string V] := by
          have := At.alloc_new W3 9 #[.string V]; simpa using this
        have h1 := World.ownsRow.alloc h3 (.cells #[.string V] 9)
        go_wp2_with (first
          | (at_builtin; refine wpList_append_own _ rfl _ _ _ rfl B 9 iI (.string ⟨#[]⟩) 1 16 Tryd.underlying22 hiI hz0 hz1 hz2 rfl (by decide) _ i _ rfl (World.ownsRow.drew h1) ⟨W3.heap.size, 0, none⟩ 1 1 (tcells [V]) rfl rfl (by intro j u hj; rw [addr_add', Nat.zero_add]; exact (hA2.cell j).trans hj) (tcells_one _) (by simp [maxLen]; omega) (by omega) (by have := f3.size; simp; omega) ?_; intro v2 w2 o2 gr2 _)
          | fail)
        have f2 := Fr.ofGrown gr2 (S := u6.ownBlock.toList) (by intro k hk; rw [show u6.ownBlock = some k from hk]; simp)
        have hng : gm ∉ u6.ownBlock.toList := fun hx => by have := (h0.lt gm (by simpa using hx)).1; omega
        refine ⟨⟨i + 1, cs.set i (.string V), by omega, by simp, f2.keep (hA3.alloc _) hng, HS.out.1, by rw [HS.out.2]; exact o2, by have q1 := f2.size; have q2 := f3.size; simp at q1; omega, ?_⟩, by simp only [intOf]; omega⟩
        exact hF.new (S := gm :: u6.ownBlock.toList) ((f3.mono (fun x hx _ => by simpa using Or.inl (by simpa using hx))).trans (((Fr.alloc _ _ _).trans (Fr.drew _ _)).trans (f2.mono (fun x hx _ => List.mem_cons_of_mem _ hx)))) (fun x hx => by rcases List.mem_cons.1 hx with rfl | hx <;> first | exact hgm | (have := (h0.lt x (by simpa using hx)).1; omega))
    · obtain rfl : i = ps.length := by omega
      obtain ⟨qs, hqs⟩ : ∃ qs, qs = ps.map bump := ⟨_, rfl⟩
      have hql : qs.length = ps.length := by rw [hqs]; simp
      rw [List.take_of_length_le (Nat.le_refl _), ← hqs] at h0
      rw [List.take_of_length_le (Nat.le_refl _), ← hqs, List.drop_eq_nil_of_le (Nat.le_refl _), List.append_nil] at htk
      have hB1 := HB.out.2.2
      rw [← hqs] at hB1
      have hB2 := HB.out.1
      have hTq : Texts wr (some ⟨gm, 0, none⟩) qs := by
        intro j s hj
        have hjl : j < qs.length := by
          rcases Nat.lt_or_ge j qs.length with h' | h'
          · exact h'
          · rw [List.getElem?_eq_none h'] at hj; cases hj
        refine ⟨gm, 0, rfl, ?_⟩
        have e1 : (cs.take ps.length)[j]? = cs[j]? := by rw [List.getElem?_take, if_pos (by omega)]
        rw [Nat.zero_add, hA.cell j, ← e1, htk, tcells, List.getElem?_map, hj]; rfl
      obtain ⟨ad6, c6, rfl, hT6⟩ := texts_own h0 hql
      have cL := sum_any qs (some ⟨gm, 0, none⟩) cm (by omega) (by omega) wr (hI.keep hF) (hR.keep hF (by simp)) hTq
      have cJ : ∀ w', Texts w' ad6 qs → _ := fun w' h => rjoin_any qs ad6 c6 (by omega) (by omega) w' h
      have cR : ∀ w', Powers w' → RefRoots w' → Calls Tryd.prog 12 #[.string ⟨(joinL qs).toArray⟩] w' fun e w'' => e = .returned (.string ⟨(shaL (joinL qs)).toArray⟩) ∧ Fr [] w' w'' := fun w' h1 h2 => rsum_any ⟨(joinL qs).toArray⟩ (by show (joinL qs).toArray.size ≤ _; rw [List.size_toArray]; omega) w' h1 h2
      rw [hql] at cL cJ
      generalize (⟨(shaL (joinL qs)).toArray⟩ : ByteArray) = X2 at cL cR
      generalize (⟨(joinL qs).toArray⟩ : ByteArray) = J2 at cJ cR
      have mk2 : True := trivial
      clear htk h0 hqs hB1 hB2 hTq hA
      go_wp2_with (first
        | (go_at_call 10; clear mk2; refine cL.mono ?_; clear cL; rintro e w1 ⟨rfl, f1⟩; have hF := hF.trans f1; have hT6 := hT6.keep f1)
        | (go_at_call 11; refine (cJ _ hT6).mono ?_; clear cJ; rintro e w2 ⟨rfl, f2⟩; have hF := hF.trans f2)
        | (go_at_call 12; refine (cR _ (hP.keep hF) (hQ.keep hF)).mono ?_; clear cR; rintro e w3 ⟨rfl, f3⟩; have hF := hF.trans f3)
        | fail)
      go_ret
      exact ⟨rfl, hF⟩
end Go.Proofs.YtkagmoaapampgaaDoor
