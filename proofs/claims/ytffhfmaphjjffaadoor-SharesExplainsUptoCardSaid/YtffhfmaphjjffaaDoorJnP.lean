/- What shares give back, in plain Lean: the join of texts, shares of one split. No walk here. -/
import Derived.Test.YtffhfmaphjjffaaDoorJnTogP
import Derived.Test.YtffhfmaphjjffaaDoorShrLinP
namespace Go.Proofs.YtffhfmaphjjffaaDoor
open Go.RowKit Go.Lib Go.Joins Base Gf
set_option linter.unusedVariables false
set_option linter.unusedSimpArgs false

/-- What Join answers. -/
def joinV (ps : List ByteArray) : List UInt8 × Int :=
  if togE ps ≠ 0 then ([], togE ps) else
  match ps[0]? with
  | none => ([], 262)
  | some s =>
    if ps.length < (kinO s).1 then ([], 262) else
    if ∀ p ∈ (ps.map ptO).drop (kinO s).1, atR ((ps.map ptO).take (kinO s).1) p.1 = p.2 then (atR ((ps.map ptO).take (kinO s).1) 0, 0) else ([], 260)

theorem valD_len (l : List UInt8) (h : isE l = 0) : (valD l).length = 32 := by
  have := (isE_parts l h).1
  simp [valD]; omega
theorem badE_mem : ∀ (ps : List ByteArray), badE ps = 0 → ∀ s ∈ ps, isE s.data.toList = 0
  | [], _, s, hs => by simp at hs
  | t :: l, h, s, hs => by
    rw [badE] at h
    by_cases ht : isE t.data.toList = 0
    · rw [if_pos ht] at h
      rcases List.mem_cons.1 hs with rfl | hs
      · exact ht
      · exact badE_mem l h s hs
    · rw [if_neg ht] at h; exact absurd h ht
theorem togE_zero {ps : List ByteArray} (h : togE ps = 0) : (∀ s ∈ ps, isE s.data.toList = 0) ∧ (∀ s ∈ ps, ∀ t ∈ ps, kinO s = kinO t) ∧ (xsOf (ps.map ptO)).Nodup := by
  unfold togE at h
  split at h
  · rename_i hb
    split at h
    · rename_i hk
      split at h
      · rename_i hn; exact ⟨badE_mem ps hb, hk, hn⟩
      · exact absurd h (by decide)
    · exact absurd h (by decide)
  · rename_i hb; exact absurd h hb
theorem badE_good (ps : List ByteArray) (h : ∀ s ∈ ps, isE s.data.toList = 0) : badE ps = 0 :=
  badE_all ps fun j t ht => h t (List.mem_of_getElem? ht)
theorem togE_good {ps : List ByteArray} (h1 : ∀ s ∈ ps, isE s.data.toList = 0) (h2 : ∀ s ∈ ps, ∀ t ∈ ps, kinO s = kinO t) (h3 : (xsOf (ps.map ptO)).Nodup) : togE ps = 0 := by
  unfold togE; rw [if_pos (badE_good ps h1), if_pos h2, if_pos h3]
theorem togE_twice {ps : List ByteArray} (h1 : ∀ s ∈ ps, isE s.data.toList = 0) (h2 : ∀ s ∈ ps, ∀ t ∈ ps, kinO s = kinO t) (h3 : ¬ (xsOf (ps.map ptO)).Nodup) : togE ps = 261 := by
  unfold togE; rw [if_pos (badE_good ps h1), if_pos h2, if_neg h3]
theorem togE_unlike {ps : List ByteArray} (h1 : ∀ s ∈ ps, isE s.data.toList = 0) (h2 : ¬ ∀ s ∈ ps, ∀ t ∈ ps, kinO s = kinO t) : togE ps = 260 := by
  unfold togE; rw [if_pos (badE_good ps h1), if_neg h2]
theorem badE_one : ∀ (ps : List ByteArray) (i : Nat) (s : ByteArray), ps[i]? = some s → isE s.data.toList ≠ 0 → (∀ j t, j ≠ i → ps[j]? = some t → isE t.data.toList = 0) → badE ps = isE s.data.toList := fun ps i s hs hn ho =>
  badE_take ps i s (fun j t hj ht => ho j t (by omega) ht) hs hn
theorem togE_bad {ps : List ByteArray} (h : badE ps ≠ 0) : togE ps = badE ps := by
  unfold togE; rw [if_neg h]
theorem join_bad {ps : List ByteArray} (h : togE ps ≠ 0) : joinV ps = ([], togE ps) := by
  unfold joinV; rw [if_pos h]
theorem join_none {ps : List ByteArray} (h : togE ps = 0) (h0 : ps = []) : joinV ps = ([], 262) := by
  subst h0; unfold joinV; rw [if_neg (by simpa using h)]; rfl
theorem join_few {ps : List ByteArray} (h : togE ps = 0) (s : ByteArray) (hs : ps[0]? = some s) (hk : ps.length < (kinO s).1) : joinV ps = ([], 262) := by
  unfold joinV; rw [if_neg (by simpa using h), hs]; show (if ps.length < (kinO s).1 then _ else _) = _; rw [if_pos hk]
theorem join_ok {ps : List ByteArray} (h : togE ps = 0) (s : ByteArray) (hs : ps[0]? = some s) (hk : ¬ ps.length < (kinO s).1) (ha : ∀ p ∈ (ps.map ptO).drop (kinO s).1, atR ((ps.map ptO).take (kinO s).1) p.1 = p.2) : joinV ps = (atR ((ps.map ptO).take (kinO s).1) 0, 0) := by
  unfold joinV; rw [if_neg (by simpa using h), hs]; show (if ps.length < (kinO s).1 then _ else _) = _; rw [if_neg hk, if_pos ha]
theorem join_split {ps : List ByteArray} (h : togE ps = 0) (s : ByteArray) (hs : ps[0]? = some s) (hk : ¬ ps.length < (kinO s).1) (ha : ¬ ∀ p ∈ (ps.map ptO).drop (kinO s).1, atR ((ps.map ptO).take (kinO s).1) p.1 = p.2) : joinV ps = ([], 260) := by
  unfold joinV; rw [if_neg (by simpa using h), hs]; show (if ps.length < (kinO s).1 then _ else _) = _; rw [if_neg hk, if_neg ha]

/-! ## A share of a split -/
/-- The texts of the shares of a split whose values are V. -/
def ofV (K : Nat) (id : List UInt8) (x : UInt8) (v : List UInt8) : ByteArray := ⟨(textS x (UInt8.ofNat K) id v).toArray⟩
theorem ofV_toList (K : Nat) (id : List UInt8) (x : UInt8) (v : List UInt8) : (ofV K id x v).data.toList = textS x (UInt8.ofNat K) id v := by simp [ofV]
theorem textS_get1 (x k : UInt8) (id v : List UInt8) : (textS x k id v).getD 1 0 = x := by simp [textS, bodyS]
theorem textS_get2 (x k : UInt8) (id v : List UInt8) : (textS x k id v).getD 2 0 = k := by simp [textS, bodyS]
theorem textS_get0 (x k : UInt8) (id v : List UInt8) : (textS x k id v).getD 0 0 = 83 := by simp [textS, bodyS]
theorem textS_take (x k : UInt8) (id v : List UInt8) (h1 : id.length = 8) (h2 : v.length = 32) : (textS x k id v).take 43 = bodyS x k id v := by
  rw [textS, List.take_append_of_le_length (by rw [bodyS_len _ _ _ _ h1 h2]; omega), List.take_of_length_le (by rw [bodyS_len _ _ _ _ h1 h2]; omega)]
theorem textS_drop (x k : UInt8) (id v : List UInt8) (h1 : id.length = 8) (h2 : v.length = 32) : (textS x k id v).drop 43 = (shaL (bodyS x k id v)).take 8 := by
  rw [textS, List.drop_append_of_le_length (by rw [bodyS_len _ _ _ _ h1 h2]; omega), List.drop_of_length_le (by rw [bodyS_len _ _ _ _ h1 h2]; omega), List.nil_append]
theorem ofV_is (K : Nat) (hK : 1 ≤ K) (hK2 : K ≤ 16) (id : List UInt8) (x : UInt8) (v : List UInt8) (h1 : id.length = 8) (h2 : v.length = 32) (hx : 1 ≤ x.toNat ∧ x.toNat ≤ 16) : isE (ofV K id x v).data.toList = 0 := by
  rw [ofV_toList]
  unfold isE
  have hk : (UInt8.ofNat K).toNat = K := by simp; omega
  rw [if_pos ⟨textS_len _ _ _ _ h1 h2, textS_get0 _ _ _ _⟩, textS_take _ _ _ _ h1 h2, textS_drop _ _ _ _ h1 h2, if_pos rfl, textS_get1, textS_get2, hk, if_pos ⟨hx.1, hx.2, hK, hK2⟩]
theorem ofV_pt (K : Nat) (id : List UInt8) (x : UInt8) (v : List UInt8) (h1 : id.length = 8) (h2 : v.length = 32) : ptO (ofV K id x v) = (x, v) := by
  rw [ptO, ofV_toList, textS_get1, valD, text_val _ _ _ _ h1 h2]
theorem ofV_kin (K : Nat) (hK2 : K ≤ 16) (id : List UInt8) (x : UInt8) (v : List UInt8) (h1 : id.length = 8) : kinO (ofV K id x v) = (K, ⟨id.toArray⟩) := by
  have hk : (UInt8.ofNat K).toNat = K := by simp; omega
  rw [kinO, ofV_toList, textS_get2, hk, ofV, str_mid _ _ _ (by omega)]
  congr 2
  simp [textS, bodyS, List.take_append_of_le_length, h1]
theorem shareS_ofV (m id c : List UInt8) (K i : Nat) : (⟨(shareS m id c K i).toArray⟩ : ByteArray) = ofV K id (UInt8.ofNat (i + 1)) (valS m c K (UInt8.ofNat (i + 1))) := rfl

/-! ## Values of one polynomial at each place -/
theorem xsOf_take (ps : List Pt) (n : Nat) : xsOf (ps.take n) = (xsOf ps).take n := by simp [xsOf, List.map_take]
/-- Points of polynomials of K coefficients: any K of them give the value anywhere. -/
theorem atR_val (m c : List UInt8) (K : Nat) (hl : 32 * K ≤ m.length + c.length) (ps : List Pt) (hn : (xsOf ps).Nodup) (hK : ps.length = K) (hv : ∀ p ∈ ps, p.2 = valS m c K p.1) (x : UInt8) : atR ps x = valS m c K x := by
  have h32 : ∀ p ∈ ps, p.2.length = 32 := fun p hp => by rw [hv p hp, valS_len _ _ _ _ hl]
  refine list_getD_ext _ _ (by rw [atR_len ps x h32, valS_len _ _ _ _ hl]) fun j hj => ?_
  rw [atR_len ps x h32] at hj
  rw [atR_get ps x j hj h32, valS_get m c K x j hl hj]
  refine atP_poly _ _ _ hn (by rw [coefs_len, xsOf_len, hK]) (fun i hi => ?_) x
  rw [xsOf_len] at hi
  have hg := List.getElem?_eq_getElem hi
  rw [xsOf_get ps i _ hg, ysOf_get ps i j _ hg, hv _ (List.getElem_mem hi), valS_get m c K _ j hl hj]
theorem valS_zero (m c : List UInt8) (K : Nat) (hK : 1 ≤ K) (hm : m.length = 32) (hl : 32 * K ≤ m.length + c.length) : valS m c K 0 = m := by
  refine list_getD_ext _ _ (by rw [valS_len _ _ _ _ hl, hm]) fun j hj => ?_
  rw [valS_len _ _ _ _ hl] at hj
  rw [valS_get m c K 0 j hl hj, ev_zero, coefs_get m c K j 0 (by omega) hj]
  simp only [List.getD, List.getElem?_append, hm, Nat.mul_zero, Nat.zero_add, hj, if_true]
/-- What makes shares of one split of m under coins c. -/
def Shar (m id c : List UInt8) (K : Nat) (s : ByteArray) : Prop := ∃ x : UInt8, 1 ≤ x.toNat ∧ x.toNat ≤ 16 ∧ s = ofV K id x (valS m c K x)
theorem shar_tog {m id c : List UInt8} {K : Nat} (hK : 1 ≤ K) (hK2 : K ≤ 16) (hi : id.length = 8) (hl : 32 * K ≤ m.length + c.length) {ps : List ByteArray} (h : ∀ s ∈ ps, Shar m id c K s) (hn : (xsOf (ps.map ptO)).Nodup) : togE ps = 0 := by
  refine togE_good (fun s hs => ?_) (fun s hs t ht => ?_) hn
  · obtain ⟨x, h1, h2, rfl⟩ := h s hs; exact ofV_is K hK hK2 id x _ hi (valS_len _ _ _ _ hl) ⟨h1, h2⟩
  · obtain ⟨x, h1, h2, rfl⟩ := h s hs
    obtain ⟨y, h3, h4, rfl⟩ := h t ht
    rw [ofV_kin K hK2 id x _ hi, ofV_kin K hK2 id y _ hi]
theorem shar_pt {m id c : List UInt8} {K : Nat} (hi : id.length = 8) (hl : 32 * K ≤ m.length + c.length) {s : ByteArray} (h : Shar m id c K s) : (ptO s).2 = valS m c K (ptO s).1 := by
  obtain ⟨x, h1, h2, rfl⟩ := h
  rw [ofV_pt K id x _ hi (valS_len _ _ _ _ hl)]
theorem shar_kin {m id c : List UInt8} {K : Nat} (hK2 : K ≤ 16) (hi : id.length = 8) {s : ByteArray} (h : Shar m id c K s) : kinO s = (K, ⟨id.toArray⟩) := by
  obtain ⟨x, h1, h2, rfl⟩ := h
  exact ofV_kin K hK2 id x _ hi
/-- Any K of them or more give the key. -/
theorem join_shar {m id c : List UInt8} {K : Nat} (hK : 1 ≤ K) (hK2 : K ≤ 16) (hm : m.length = 32) (hi : id.length = 8) (hl : 32 * K ≤ m.length + c.length) {ps : List ByteArray} (h : ∀ s ∈ ps, Shar m id c K s) (hn : (xsOf (ps.map ptO)).Nodup) (hp : K ≤ ps.length) : joinV ps = (m, 0) := by
  have h0 : 0 < ps.length := by omega
  have hs : ps[0]? = some ps[0] := List.getElem?_eq_getElem h0
  have hk := shar_kin hK2 hi (h _ (List.getElem_mem h0))
  have hat : ∀ x, atR ((ps.map ptO).take K) x = valS m c K x := fun x => by
    refine atR_val m c K hl _ ?_ (by simp; omega) (fun p hp => ?_) x
    · rw [xsOf_take]; exact hn.sublist (List.take_sublist _ _)
    · obtain ⟨s, hs, rfl⟩ := List.mem_map.1 (List.mem_of_mem_take hp)
      exact shar_pt hi hl (h s hs)
  rw [join_ok (shar_tog hK hK2 hi hl h hn) _ hs (by rw [hk]; simp; omega) ?_, hk, hat, valS_zero m c K hK hm hl]
  rw [hk]
  intro p hp
  rw [hat]
  obtain ⟨s, hs, rfl⟩ := List.mem_map.1 (List.mem_of_mem_drop hp)
  exact (shar_pt hi hl (h s hs)).symm
theorem join_shar_few {m id c : List UInt8} {K : Nat} (hK : 1 ≤ K) (hK2 : K ≤ 16) (hi : id.length = 8) (hl : 32 * K ≤ m.length + c.length) {ps : List ByteArray} (h : ∀ s ∈ ps, Shar m id c K s) (hn : (xsOf (ps.map ptO)).Nodup) (hp : ps.length < K) : joinV ps = ([], 262) := by
  have ht := shar_tog hK hK2 hi hl h hn
  by_cases h0 : ps = []
  · exact join_none ht h0
  · have h0 : 0 < ps.length := by cases ps <;> simp_all
    refine join_few ht _ (List.getElem?_eq_getElem h0) ?_
    rw [shar_kin hK2 hi (h _ (List.getElem_mem h0))]; exact hp
theorem join_shar_twice {m id c : List UInt8} {K : Nat} (hK : 1 ≤ K) (hK2 : K ≤ 16) (hi : id.length = 8) (hl : 32 * K ≤ m.length + c.length) {ps : List ByteArray} (h : ∀ s ∈ ps, Shar m id c K s) (hn : ¬ (xsOf (ps.map ptO)).Nodup) : joinV ps = ([], 261) := by
  have ht : togE ps = 261 := by
    refine togE_twice (fun s hs => ?_) (fun s hs t ht => ?_) hn
    · obtain ⟨x, h1, h2, rfl⟩ := h s hs; exact ofV_is K hK hK2 id x _ hi (valS_len _ _ _ _ hl) ⟨h1, h2⟩
    · rw [shar_kin hK2 hi (h s hs), shar_kin hK2 hi (h t ht)]
  rw [join_bad (by rw [ht]; decide), ht]
end Go.Proofs.YtffhfmaphjjffaaDoor
