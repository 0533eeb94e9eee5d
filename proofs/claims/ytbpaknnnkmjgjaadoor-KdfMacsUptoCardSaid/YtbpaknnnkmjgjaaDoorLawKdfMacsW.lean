/- The law KdfMacs walked. -/
import Derived.Test.YtbpaknnnkmjgjaaDoorRef3
import Derived.Test.YtbpaknnnkmjgjaaDoorRef3J
import Derived.Test.YtbpaknnnkmjgjaaDoorTextsU
import Derived.Test.YtbpaknnnkmjgjaaDoorLawKdfCutsW
namespace Go.Proofs.YtbpaknnnkmjgjaaDoor
open Go.RowKit Go.Lib Go.Joins Base
set_option linter.unusedVariables false
set_option linter.unusedSimpArgs false

/-- HMAC of the document. -/
theorem rhmac_any (key : ByteArray) (hkey : key.size ≤ 140737488355328) (ps : List ByteArray) (ad : Option Addr) (cap : Nat) (hj : (joinL ps).length ≤ 140737488355264) (hp63 : ps.length < 4611686018427387904) (w : World) (hP : Powers w) (hQ : RefRoots w) (hp : Texts w ad ps) :
    Calls Tryd.prog 14 #[.string key, .slice ad ps.length cap] w fun e w' => e = .returned (.string ⟨(hmacL key.data.toList (joinL ps)).toArray⟩) ∧ Fr [] w w' := by
  have c1 := rjoined_any ps ad cap (by omega) hp63 w hp
  have c2 : ∀ w, Powers w → RefRoots w → Calls Tryd.prog 41 #[.string key, .string ⟨(joinL ps).toArray⟩] w fun e w' => e = .returned (.string ⟨(hmacL key.data.toList (joinL ps)).toArray⟩) ∧ Fr [] w w' := fun w h1 h2 =>
    rkeyed_any key ⟨(joinL ps).toArray⟩ hkey (by show (joinL ps).toArray.size ≤ _; rw [List.size_toArray]; exact hj) w h1 h2
  generalize (⟨(joinL ps).toArray⟩ : ByteArray) = J at c1 c2
  generalize (⟨(hmacL key.data.toList (joinL ps)).toArray⟩ : ByteArray) = X at c2 ⊢
  go_enter Tryd.func14, Tryd.ntmps14
  go_wp2_with (first
    | (go_at_call 40; refine c1.mono ?_; clear c1; rintro e w1 ⟨rfl, f1⟩)
    | (go_at_call 41; refine (c2 _ (hP.keep f1) (hQ.keep f1)).mono ?_; rintro e w2 ⟨rfl, f2⟩)
    | fail)
  go_ret
  exact ⟨rfl, f1.trans f2⟩

theorem Texts.take {w : World} {ad : Option Addr} {ps qs : List ByteArray} (h : Texts w ad (ps ++ qs)) : Texts w ad ps := by
  intro j s hj
  have hlt : j < ps.length := by
    rcases Nat.lt_or_ge j ps.length with h' | h'
    · exact h'
    · rw [List.getElem?_eq_none h'] at hj; cases hj
  exact h j s (by rw [List.getElem?_append_left hlt]; exact hj)
theorem tcells_app (a b : List ByteArray) : tcells (a ++ b) = tcells a ++ tcells b := by simp [tcells]

set_option maxRecDepth 100000 in
set_option maxHeartbeats 1000000 in
theorem sameTexts_any (ps : List ByteArray) (ad1 ad2 : Option Addr) (c1 c2 : Nat) (hn : ps.length < 4611686018427387904) (w : World) (h1 : Texts w ad1 ps) (h2 : Texts w ad2 ps) :
    Calls Tryd.prog 15 #[.slice ad1 ps.length c1, .slice ad2 ps.length c2] w fun e w' => e = .returned (.bool true) ∧ Fr [] w w' := by
  go_enter Tryd.func15, Tryd.ntmps15
  go_wp2_with fail
  go_loopw [5] (fun v wr => ∃ i : Nat, i ≤ ps.length ∧ v = .int .i64 i ∧ Texts wr ad1 ps ∧ Texts wr ad2 ps ∧ Fr [] w wr) (fun v _ => ps.length - (intOf v).toNat)
  case atStart => exact ⟨0, by omega, rfl, h1, h2, Fr.refl _ _⟩
  case round =>
    clear h1 h2
    obtain ⟨i, hi, rfl, h1, h2, hF⟩ := hrel
    by_cases hl : i < ps.length
    · have l1 : (i : Int) < ps.length := by omega
      obtain ⟨g, o, rfl, hc⟩ := h1 i ps[i] (by simp [hl])
      obtain ⟨g', o', rfl, hd⟩ := h2 i ps[i] (by simp [hl])
      generalize ps[i] = d at hc hd
      go_wp2_with fail
      go_region
      go_wp2_with fail
      refine ⟨⟨i + 1, by omega, by simp, h1.keep (Fr.drew _ _), h2.keep (Fr.drew _ _), hF.trans (Fr.drew _ _)⟩, by simp only [intOf]; omega⟩
    · obtain rfl : i = ps.length := by omega
      go_wp2_with fail
      go_ret
      exact ⟨rfl, hF⟩

theorem texts_own {w : World} {base n : Nat} {e : TypeId} {v : Value} {ps : List ByteArray} (h : w.ownsRow base e 1 v n (tcells ps)) (hn : ps.length = n) : ∃ ad c, v = .slice ad n c ∧ Texts w ad ps := by
  obtain ⟨_, ⟨rfl, rfl⟩ | ⟨g, cap, cur, rfl, hb, hg, _, _, _, ht⟩⟩ := h
  · exact ⟨none, 0, rfl, fun j s hj => by rw [List.eq_nil_of_length_eq_zero hn] at hj; cases hj⟩
  · refine ⟨_, _, rfl, fun j s hj => ⟨g, 0, rfl, ?_⟩⟩
    have hjl : j < ps.length := by
      rcases Nat.lt_or_ge j ps.length with h' | h'
      · exact h'
      · rw [List.getElem?_eq_none h'] at hj; cases hj
    have hA : At w g e cur.toList := by unfold At; rw [hg]
    have e1 : (cur.toList.take (n * 1))[j]? = cur.toList[j]? := by rw [List.getElem?_take, if_pos (by omega)]
    rw [Nat.zero_add, hA.cell j, ← e1, ht, tcells, List.getElem?_map, hj]; rfl

/-- A text with an x behind it. -/
def addx (d : ByteArray) : ByteArray := d ++ ⟨#[120]⟩
theorem addx_size (d : ByteArray) : (addx d).size = d.size + 1 := by unfold addx; rw [ByteArray.size_append]; rfl
theorem joinL_addx : ∀ (ps : List ByteArray), (joinL (ps.map addx)).length = bulkL ps
  | [] => by simp [joinL, bulkL]
  | p :: r => by
    have h1 := joinL_addx r
    have h2 := addx_size p
    have h3 : (addx p).data.toList.length = (addx p).size := by simp
    simp [joinL, bulkL] at h1 h3 ⊢; omega
def hashes (j : Nat) : List ByteArray := List.replicate j ⟨#[35]⟩
theorem hashes_succ (ps : List ByteArray) (j : Nat) : tcells (ps ++ hashes (j + 1)) = tcells (ps ++ hashes j) ++ tcells [⟨#[35]⟩] := by
  rw [← tcells_app, List.append_assoc]
  unfold hashes
  rw [List.replicate_succ']

set_option maxRecDepth 100000 in
set_option maxHeartbeats 4000000 in
theorem macs_law {H : Type} {d0 d1 : DataW H} {w : World} (key : ByteArray) (hkey : key.size ≤ 140737488351232) (v : Value) (ps : List ByteArray) (hv : IsT w v ps ∧ (Rows.uptoSmall H [d1] = true → bulkL ps ≤ 1048576)) (hk : Rows.uptoSmall H [d0, d1] = true) (hQ : RefRoots w) (hP : Powers w) (hI : First w) (hR : Roots w) :
    Calls Tryd.prog 3 #[.string key, v] w fun e w' => e = .returned (.bool true) ∧ Fr [] w w' := by
  obtain ⟨⟨ad, cap, rfl, hcap, hp, h16, hnone, hps⟩, hb⟩ := hv
  have hbulk : bulkL ps ≤ 1048576 := by
    refine hb ?_
    have h := of_decide_eq_true hk
    simp only [Rows.uptoBulkAll] at h
    exact decide_eq_true (by simp only [Rows.uptoBulkAll]; omega)
  have hjb := joinL_bulk ps
  have hn : ps.length ≤ 1048576 := by omega
  have hj : (joinL ps).length ≤ 1048576 := by omega
  have hjx := joinL_addx ps
  have hi5 : (Tryd.prog.info? 9).map (fun i => (i.zero, i.size, i.bytes)) = some (some (.string ⟨#[]⟩), 1, 16) := by kernel_rfl
  obtain ⟨iI, hiI, hz0, hz1, hz2⟩ := info_parts hi5
  have cT := texts_any ps ad cap h16 w hp
  have HB := Lib.hid (And.intro hbulk (And.intro hjb (And.intro hjx hps)))
  clear hb hbulk hjb hjx hk hps hnone
  go_enter Tryd.func3, Tryd.ntmps3
  go_wp2_with (first
    | (go_at_call 12; refine cT.mono ?_; clear cT; rintro e w1 ⟨vf, rfl, o1, b1⟩; obtain ⟨adf, cf0, rfl, _⟩ := texts_own o1 rfl)
    | fail)
  have o0 : w1.ownsRow w.heap.size 9 1 (.slice adf ps.length cf0) (ps.length + 0) (tcells (ps ++ hashes 0)) := by simpa [hashes] using o1
  clear o1
  go_loopw [5, 7] (fun v5 v7 wr => ∃ j : Nat, j ≤ 8 ∧ v7 = .int .i64 j ∧ wr.ownsRow w.heap.size 9 1 v5 (ps.length + j) (tcells (ps ++ hashes j)) ∧ Below w.heap.size w wr) (fun _ v _ => 8 - (intOf v).toNat)
  case atStart => exact ⟨0, by omega, rfl, o0, b1⟩
  case round =>
    clear o0 b1
    obtain ⟨j, hj8, rfl, h0, hB⟩ := hrel
    have hsz := hB.size
    by_cases hl : j < 8
    · have l1 : (j : Int) < 8 := by omega
      have A2 := At.alloc_new wr 9 #[Value.string ⟨#[35]⟩]
      go_wp2_with (first
        | (at_builtin; refine wpList_append_own _ rfl _ _ _ rfl w.heap.size 9 iI (.string ⟨#[]⟩) 1 16 Tryd.underlying22 hiI hz0 hz1 hz2 rfl (by decide) _ (ps.length + j) _ rfl (World.ownsRow.alloc h0 _) ⟨wr.heap.size, 0, none⟩ 1 1 (tcells [⟨#[35]⟩]) rfl rfl (by intro j u hj; rw [addr_add', Nat.zero_add]; exact (A2.cell j).trans hj) (tcells_one _) (by simp [maxLen]; omega) (by omega) (by simp; omega) ?_; intro v2 w2 o2 gr2 _)
        | fail)
      refine ⟨⟨j + 1, by omega, by simp, by rw [hashes_succ]; exact o2, (hB.alloc (by omega) _).grown gr2 (by simp; omega) (fun x hx => (h0.lt x hx).1)⟩, by simp only [intOf]; omega⟩
    · obtain rfl : j = 8 := by omega
      rcases ownsRow_forms h0 with ⟨rfl, h1⟩ | ⟨g, cf, rfl⟩
      · omega
      have hF : Fr [] w wr := Fr.ofBelow hB
      have hgl := h0.lt g rfl
      have hTf := Texts.ofOwn h0
      have hcf := own_cap h0
      have hcf1 : (ps.length : Int) ≤ cf := by omega
      have hql : (ps ++ hashes 8).length = ps.length + 8 := by simp [hashes]
      have cT : ∀ w', Texts w' (some ⟨g, 0, none⟩) (ps ++ hashes 8) → _ := fun w' h => texts_any2 (ps ++ hashes 8) (some ⟨g, 0, none⟩) cf (by rw [hql]; omega) w' h
      have cS : ∀ ad2 c2 w', Texts w' (some ⟨g, 0, none⟩) (ps ++ hashes 8) → Texts w' ad2 (ps ++ hashes 8) → _ := fun ad2 c2 w' h1 h2 => sameTexts_any (ps ++ hashes 8) (some ⟨g, 0, none⟩) ad2 cf c2 (by rw [hql]; omega) w' h1 h2
      rw [hql] at cT cS
      have cH : ∀ w', First w' → Roots w' → Texts w' (some ⟨g, 0, none⟩) ps → Calls Tryd.prog 13 #[.string key, .slice (some ⟨g, 0, none⟩) ps.length cf] w' fun e w'' => e = .returned (.string ⟨(hmacL key.data.toList (joinL ps)).toArray⟩) ∧ Fr [] w' w'' := fun w' h1 h2 h3 => hmac_any key (by omega) ps _ cf (.inl ⟨_, _, rfl⟩) (by omega) h16 w' h1 h2 h3
      have cR : ∀ w', Powers w' → RefRoots w' → Texts w' ad ps → Calls Tryd.prog 14 #[.string key, .slice ad ps.length cap] w' fun e w'' => e = .returned (.string ⟨(hmacL key.data.toList (joinL ps)).toArray⟩) ∧ Fr [] w' w'' := fun w' h1 h2 h3 => rhmac_any key (by omega) ps ad cap (by omega) (by omega) w' h1 h2 h3
      generalize (⟨(hmacL key.data.toList (joinL ps)).toArray⟩ : ByteArray) = X1 at cH cR
      obtain ⟨_, ⟨h, _⟩ | ⟨g', cap', cur, hv, hb', hg, _, _, _, ht⟩⟩ := h0
      · simp at h
      simp only [Value.slice.injEq, Option.some.injEq, Addr.mk.injEq, and_true] at hv
      obtain ⟨rfl, _, rfl⟩ := hv
      have hA : At wr g 9 cur.toList := by unfold At; rw [hg]
      have htk : cur.toList.take ps.length = tcells ps := by
        have h2 := congrArg (List.take ps.length) ht
        rw [List.take_take] at h2
        rw [show min ps.length ((ps.length + 8) * 1) = ps.length by omega] at h2
        rw [h2, tcells_app, ← tcells_len ps, List.take_left]
      clear ht hg hql
      generalize cur.toList = cs0 at hA htk
      have HA := Lib.hid htk
      clear htk
      go_wp2_with (first
        | (go_at_call 12; refine (cT _ hTf).mono ?_; clear cT; rintro e w2 ⟨ad2, c2, rfl, _, hT2, f2⟩; have hF := hF.trans f2; have hTf := hTf.keep f2; have hA := f2.keep hA (by simp))
        | (go_at_call 13; refine (cH _ (hI.keep hF) (hR.keep hF (by simp)) hTf.take).mono ?_; clear cH; rintro e w3 ⟨rfl, f3⟩; have hF := hF.trans f3; have hTf := hTf.keep f3; have hT2 := hT2.keep f3; have hA := f3.keep hA (by simp))
        | (go_at_call 14; refine (cR _ (hP.keep hF) (hQ.keep hF) (hp.keep hF)).mono ?_; clear cR; rintro e w4 ⟨rfl, f4⟩; have hF := hF.trans f4; have hTf := hTf.keep f4; have hT2 := hT2.keep f4; have hA := f4.keep hA (by simp))
        | (go_at_call 15; refine (cS _ _ _ hTf hT2).mono ?_; clear cS; rintro e w5 ⟨rfl, f5⟩; have hF := hF.trans f5; have hA := f5.keep hA (by simp))
        | fail)
      have htk := HA.out
      clear hTf
      go_loopw [11] (fun v wr => ∃ (i : Nat) (cs : List Value), i ≤ ps.length ∧ v = .int .i64 i ∧ At wr g 9 cs ∧ cs.take ps.length = tcells ((ps.take i).map addx ++ ps.drop i) ∧ Fr [] w wr) (fun v _ => ps.length - (intOf v).toNat)
      case atStart => exact ⟨0, cs0, by omega, rfl, hA, by simpa using htk, hF⟩
      case round =>
        clear htk hF hA HA
        obtain ⟨i, cs, hi, rfl, hA, htk, hF⟩ := hrel
        by_cases hl : i < ps.length
        · have l1 : (i : Int) < ps.length := by omega
          have l2 : (i : Int) < (ps.length : Int) + 8 := by omega
          have hlA : ((ps.take i).map addx).length = i := by simp; omega
          have hci : cs[i]? = some (.string ps[i]) := by
            have h1 : (cs.take ps.length)[i]? = cs[i]? := by rw [List.getElem?_take, if_pos hl]
            rw [← h1, htk, tcells, List.getElem?_map, List.getElem?_append_right (by omega), hlA, Nat.sub_self, List.getElem?_drop, Nat.add_zero, List.getElem?_eq_getElem hl]; rfl
          obtain ⟨d, hdi⟩ : ∃ d, d = ps[i] := ⟨_, rfl⟩
          have hset : (cs.set i (.string (addx d))).take ps.length = tcells ((ps.take (i + 1)).map addx ++ ps.drop (i + 1)) := by
            rw [hdi]
            rw [List.take_set, htk, List.take_add_one, List.getElem?_eq_getElem hl]
            unfold tcells
            rw [List.map_append, List.set_append_right _ _ (by simp; omega), List.length_map, hlA, Nat.sub_self, List.drop_eq_getElem_cons hl]
            simp only [List.map_append, List.map_cons, List.map_nil, List.set_cons_zero, Option.toList, List.append_assoc, List.cons_append, List.nil_append]
          have c := hA.cell i
          rw [hci, ← hdi] at c
          have fz := hA.frozen i
          have hsz : d.size ≤ 1048576 := by
            have b1 := bulkL_take ps i hl
            have b2 := bulkL_le ps (i + 1)
            have b3 := HB.out.1
            rw [hdi]; omega
          have k1 : ¬ 9223372036854775807 < d.size + 1 := by omega
          have HS := Lib.hid hset
          clear hdi hset htk hci hlA
          go_wp2_with fail
          refine ⟨⟨i + 1, cs.set i (.string (addx d)), by omega, by simp, hA.setCell i _, HS.out, ?_⟩, by simp only [intOf]; omega⟩
          exact hF.new (S := [g]) (Fr.setCell _ wr ⟨g, i, none⟩ _ (.inl (by simp))) (by simp; exact hgl.1)
        · obtain rfl : i = ps.length := by omega
          obtain ⟨qs, hqs⟩ : ∃ qs, qs = ps.map addx := ⟨_, rfl⟩
          have hql : qs.length = ps.length := by rw [hqs]; simp
          rw [List.take_of_length_le (Nat.le_refl _), ← hqs, List.drop_eq_nil_of_le (Nat.le_refl _), List.append_nil] at htk
          have hB1 := HB.out.2.2.1
          rw [← hqs] at hB1
          have hB2 := HB.out.1
          have hTq : Texts wr (some ⟨g, 0, none⟩) qs := by
            intro j s hj
            have hjl : j < qs.length := by
              rcases Nat.lt_or_ge j qs.length with h' | h'
              · exact h'
              · rw [List.getElem?_eq_none h'] at hj; cases hj
            refine ⟨g, 0, rfl, ?_⟩
            have e1 : (cs.take ps.length)[j]? = cs[j]? := by rw [List.getElem?_take, if_pos (by omega)]
            rw [Nat.zero_add, hA.cell j, ← e1, htk, tcells, List.getElem?_map, hj]; rfl
          have cH : ∀ w', First w' → Roots w' → Texts w' (some ⟨g, 0, none⟩) qs → Calls Tryd.prog 13 #[.string key, .slice (some ⟨g, 0, none⟩) ps.length cf] w' fun e w'' => e = .returned (.string ⟨(hmacL key.data.toList (joinL qs)).toArray⟩) ∧ Fr [] w' w'' := fun w' h1 h2 h3 => by
            have := hmac_any key (by omega) qs _ cf (.inl ⟨_, _, rfl⟩) (by omega) (by omega) w' h1 h2 h3
            rw [hql] at this
            exact this
          have cT : ∀ w', Texts w' (some ⟨g, 0, none⟩) qs → _ := fun w' h => texts_any2 qs (some ⟨g, 0, none⟩) cf (by omega) w' h
          have cR : ∀ ad cap w', Powers w' → RefRoots w' → Texts w' ad qs → Calls Tryd.prog 14 #[.string key, .slice ad ps.length cap] w' fun e w'' => e = .returned (.string ⟨(hmacL key.data.toList (joinL qs)).toArray⟩) ∧ Fr [] w' w'' := fun ad cap w' h1 h2 h3 => by
            have := rhmac_any key (by omega) qs ad cap (by omega) (by omega) w' h1 h2 h3
            rw [hql] at this
            exact this
          rw [hql] at cT
          generalize (⟨(hmacL key.data.toList (joinL qs)).toArray⟩ : ByteArray) = X2 at cH cR
          clear htk hA hB1 hB2 hqs hql hkey
          go_wp2_with fail
          have hF : Fr [] w wr.drew := hF.trans (Fr.drew _ _)
          have hTq : Texts wr.drew (some ⟨g, 0, none⟩) qs := hTq.keep (Fr.drew _ _)
          go_region_held3 (fun _ => True) (trivial) (first
            | (go_at_call 13; refine (cH _ (hI.keep hF) (hR.keep hF (by simp)) hTq).mono ?_; clear cH; rintro e w3 ⟨rfl, f3⟩; have hF := hF.trans f3; have hTq := hTq.keep f3)
            | (go_at_call 12; refine (cT _ hTq).mono ?_; clear cT; rintro e w2 ⟨ad2, c2, rfl, _, hT2, f2⟩; have hF := hF.trans f2)
            | (go_at_call 14; refine (cR _ _ _ (hP.keep hF) (hQ.keep hF) hT2).mono ?_; clear cR; rintro e w4 ⟨rfl, f4⟩; have hF := hF.trans f4))
          go_wp2_with fail
          go_ret
          exact ⟨rfl, hF⟩
end Go.Proofs.YtbpaknnnkmjgjaaDoor
