/- Shares picked out of a split, spoilt ones, and shares of another split, in plain Lean. No walk here. -/
import Derived.Test.YtffhfmaphjjffaaDoorJnP
namespace Go.Proofs.YtffhfmaphjjffaaDoor
open Go.RowKit Go.Lib Go.Joins Base Gf
set_option linter.unusedVariables false
set_option linter.unusedSimpArgs false

/-- out was picked out of l, each place at most once. -/
def Pick (l out : List ByteArray) : Prop := ∃ rest, (out ++ rest).Perm l
theorem Pick.mem {l out : List ByteArray} (h : Pick l out) : ∀ s ∈ out, s ∈ l := fun s hs => by
  obtain ⟨r, hp⟩ := h
  exact hp.mem_iff.1 (List.mem_append_left _ hs)
theorem Pick.nodup {l out : List ByteArray} (h : Pick l out) (hn : (xsOf (l.map ptO)).Nodup) : (xsOf (out.map ptO)).Nodup := by
  obtain ⟨r, hp⟩ := h
  have hn' : ((l.map ptO).map (·.1)).Nodup := hn
  have h2 := ((hp.map ptO).map (·.1)).nodup_iff.2 hn'
  rw [List.map_append, List.map_append] at h2
  exact (List.nodup_append.1 h2).1
theorem Pick.perm {l out : List ByteArray} (h : Pick l out) (hl : out.length = l.length) : out.Perm l := by
  obtain ⟨r, hp⟩ := h
  have := hp.length_eq
  rw [List.length_append] at this
  have : r = [] := List.length_eq_zero_iff.1 (by omega)
  subst this
  simpa using hp
theorem splitB_get (m id c : List UInt8) (N K i : Nat) (hi : i < N) : (splitB m id c N K)[i]? = some (ofV K id (UInt8.ofNat (i + 1)) (valS m c K (UInt8.ofNat (i + 1)))) := by
  rw [splitB, List.getElem?_map, List.getElem?_range hi]; rfl
theorem splitB_shar {m id c : List UInt8} {N K : Nat} (hN : N ≤ 16) : ∀ s ∈ splitB m id c N K, Shar m id c K s := fun s hs => by
  obtain ⟨i, hi, rfl⟩ := List.mem_map.1 hs
  have := List.mem_range.1 hi
  exact ⟨UInt8.ofNat (i + 1), by simp; omega, by simp; omega, rfl⟩
theorem splitB_xs (m id c : List UInt8) (N K : Nat) (hi : id.length = 8) (hl : 32 * K ≤ m.length + c.length) : xsOf ((splitB m id c N K).map ptO) = (List.range N).map fun i => UInt8.ofNat (i + 1) := by
  simp only [xsOf, splitB, List.map_map]
  apply List.map_congr_left
  intro i _
  show (ptO (ofV K id (UInt8.ofNat (i + 1)) (valS m c K (UInt8.ofNat (i + 1))))).1 = _
  rw [ofV_pt K id _ _ hi (valS_len _ _ _ _ hl)]
theorem places_nodup (N : Nat) (hN : N ≤ 16) (l : List Nat) (hl : l.Nodup) (hm : ∀ i ∈ l, i < N) : (l.map fun i => UInt8.ofNat (i + 1)).Nodup := by
  rw [List.nodup_iff_pairwise_ne, List.pairwise_map]
  refine List.Pairwise.imp_of_mem ?_ hl
  intro a b ha hb hne h
  have h1 := hm a ha; have h2 := hm b hb
  have := congrArg UInt8.toNat h
  simp at this; omega
theorem splitB_nodup (m id c : List UInt8) (N K : Nat) (hN : N ≤ 16) (hi : id.length = 8) (hl : 32 * K ≤ m.length + c.length) : (xsOf ((splitB m id c N K).map ptO)).Nodup := by
  rw [splitB_xs m id c N K hi hl]
  exact places_nodup N hN _ List.nodup_range fun i h => List.mem_range.1 h

/-! ## A spoilt share -/
theorem join_spoil {ps : List ByteArray} (h : ∀ s ∈ ps, isE s.data.toList = 0) (i : Nat) (hi : i < ps.length) (t : ByteArray) (ht : isE t.data.toList ≠ 0) : joinV (ps.set i t) = ([], isE t.data.toList) := by
  have hb : badE (ps.set i t) = isE t.data.toList := badE_one _ i t (by rw [List.getElem?_set_self hi]) ht fun j u hj hu => by
    rw [List.getElem?_set_ne (by omega)] at hu
    exact h u (List.mem_of_getElem? hu)
  have hg : togE (ps.set i t) = isE t.data.toList := by rw [togE_bad (by rw [hb]; exact ht), hb]
  rw [join_bad (by rw [hg]; exact ht), hg]
theorem isE_size {l : List UInt8} (h : l.length ≠ 51) : isE l = 70 := by
  unfold isE; rw [if_neg (fun h' => h h'.1)]
theorem isE_sum {l : List UInt8} (h1 : l.length = 51) (h2 : l.getD 0 0 = 83) (h3 : (shaL (l.take 43)).take 8 ≠ l.drop 43) : isE l = 71 := by
  unfold isE; rw [if_pos ⟨h1, h2⟩, if_neg h3]
theorem isE_num {l : List UInt8} (h1 : l.length = 51) (h2 : l.getD 0 0 = 83) (h3 : (shaL (l.take 43)).take 8 = l.drop 43) (h4 : ¬ (1 ≤ (l.getD 1 0).toNat ∧ (l.getD 1 0).toNat ≤ 16)) : isE l = 72 := by
  unfold isE; rw [if_pos ⟨h1, h2⟩, if_pos h3, if_neg (fun h => h4 ⟨h.1, h.2.1⟩)]
theorem getD_app (a b : List UInt8) (i : Nat) (h : i < a.length) : (a ++ b).getD i 0 = a.getD i 0 := by simp [List.getD, List.getElem?_append_left h]
theorem getD_take (a : List UInt8) (i n : Nat) (h : i < n) : (a.take n).getD i 0 = a.getD i 0 := by simp [List.getD, List.getElem?_take, h]
/-- A good share with another sum. -/
theorem spoil_sum (l S : List UInt8) (h : isE l = 0) (hS : S.length = 8) (hne : l.take 43 ++ S ≠ l) : isE (l.take 43 ++ S) = 71 := by
  obtain ⟨h1, h2, h3, _⟩ := isE_parts l h
  have ht : (l.take 43).length = 43 := by simp; omega
  refine isE_sum (by rw [List.length_append, ht, hS]) (by rw [getD_app _ _ _ (by omega), getD_take _ _ _ (by omega), h2]) ?_
  rw [List.take_left' ht, List.drop_left' ht, h3]
  intro h'
  exact hne (by rw [← h']; exact List.take_append_drop 43 l)
/-- A good share with another number, summed anew. -/
theorem spoil_num (l B : List UInt8) (x : UInt8) (h : isE l = 0) (hB : B = l.take 1 ++ [x] ++ (l.drop 2).take 41) (hx : ¬ (1 ≤ x.toNat ∧ x.toNat ≤ 16)) : B.length = 43 ∧ isE (B ++ (shaL B).take 8) = 72 := by
  obtain ⟨h1, h2, h3, _⟩ := isE_parts l h
  have hl : B.length = 43 := by rw [hB]; simp; omega
  have hs : ((shaL B).take 8).length = 8 := by
    rw [List.length_take, shaL_len]
    decide
  refine ⟨hl, isE_num (by rw [List.length_append, hl, hs]) ?_ ?_ ?_⟩
  · rw [getD_app _ _ _ (by omega), hB, List.append_assoc, getD_app _ _ _ (by simp; omega), getD_take _ _ _ (by omega), h2]
  · rw [List.take_left' hl, List.drop_left' hl]
  · rw [getD_app _ _ _ (by omega)]
    have : B.getD 1 0 = x := by
      rw [hB]
      obtain ⟨a, r, rfl⟩ : ∃ a r, l = a :: r := by cases l with
        | nil => simp at h1
        | cons a r => exact ⟨a, r, rfl⟩
      simp
    rw [this]; exact hx

/-! ## A share of another split -/
theorem ofV_inj {K : Nat} {id : List UInt8} {x : UInt8} {v v' : List UInt8} (h : v = v') : ofV K id x v = ofV K id x v' := by rw [h]
/-- The points through K shares: what the value anywhere is, byte by byte. -/
theorem atR_thr (ps : List Pt) (h : ∀ p ∈ ps, p.2.length = 32) (x : UInt8) (j : Nat) (hj : j < 32) : (atR ps x).getD j 0 = ev (thr (xsOf ps) (ysOf ps j)) x := by
  rw [atR_get ps x j hj h, thr_ev]
theorem atR_own (ps : List Pt) (h : ∀ p ∈ ps, p.2.length = 32) (hn : (xsOf ps).Nodup) (p : Pt) (hp : p ∈ ps) : atR ps p.1 = p.2 := by
  obtain ⟨i, hi, rfl⟩ := List.mem_iff_getElem.1 hp
  have hg := List.getElem?_eq_getElem hi
  refine list_getD_ext _ _ (by rw [atR_len ps _ h, h _ hp]) fun j hj => ?_
  rw [atR_len ps _ h] at hj
  rw [atR_get ps _ j hj h]
  have := atP_at (xsOf ps) (ysOf ps j) hn i (by rw [xsOf_len]; exact hi)
  rw [xsOf_get ps i _ hg, ysOf_get ps i j _ hg] at this
  exact this
/-- With one share of another split among more than K: refused, or it is the same share. -/
theorem join_mixed {m id c v' : List UInt8} {N K i : Nat} (hK : 1 ≤ K) (hKN : K < N) (hN : N ≤ 16) (hi : i < N) (hm : m.length = 32) (hid : id.length = 8) (hl : 32 * K ≤ m.length + c.length) (hv' : v'.length = 32)
    (hne : v' ≠ valS m c K (UInt8.ofNat (i + 1))) {out : List ByteArray} (hp : Pick ((splitB m id c N K).set i (ofV K id (UInt8.ofNat (i + 1)) v')) out) (ho : out.length = N) : joinV out = ([], 260) := by
  have hll : (splitB m id c N K).length = N := splitB_len ..
  obtain ⟨l, hL⟩ : ∃ l, l = splitB m id c N K := ⟨_, rfl⟩
  obtain ⟨t, ht⟩ : ∃ t, t = ofV K id (UInt8.ofNat (i + 1)) v' := ⟨_, rfl⟩
  rw [← hL] at hll hp; rw [← ht] at hp
  have hpt : ptO t = (UInt8.ofNat (i + 1), v') := by rw [ht, ofV_pt K id _ _ hid hv']
  have hli : l[i]? = some (ofV K id (UInt8.ofNat (i + 1)) (valS m c K (UInt8.ofNat (i + 1)))) := by rw [hL]; exact splitB_get m id c N K i hi
  have hpl : ∀ j, j < N → ∃ s, l[j]? = some s ∧ Shar m id c K s ∧ ptO s = (UInt8.ofNat (j + 1), valS m c K (UInt8.ofNat (j + 1))) := fun j hj => by
    refine ⟨_, by rw [hL]; exact splitB_get m id c N K j hj, ⟨_, by simp; omega, by simp; omega, rfl⟩, ofV_pt K id _ _ hid (valS_len _ _ _ _ hl)⟩
  have hxs : xsOf ((l.set i t).map ptO) = xsOf (l.map ptO) := by
    rw [xsOf, xsOf, List.map_set, List.map_set]
    apply List.ext_getElem?
    intro j
    by_cases hj : i = j
    · subst hj
      obtain ⟨s, hs, _, hs2⟩ := hpl i hi
      rw [List.getElem?_set_self (by simp; omega)]
      simp [hs, hs2, hpt]
    · rw [List.getElem?_set_ne hj]
  have hnd : (xsOf (out.map ptO)).Nodup := hp.nodup (by rw [hxs, hL]; exact splitB_nodup m id c N K hN hid hl)
  have hmem : ∀ s ∈ l.set i t, isE s.data.toList = 0 ∧ kinO s = (K, ⟨id.toArray⟩) := fun s hs => by
    rcases List.mem_or_eq_of_mem_set hs with hs | rfl
    · rw [hL] at hs
      obtain ⟨x, h1, h2, rfl⟩ := splitB_shar hN s hs
      exact ⟨ofV_is K hK (by omega) id x _ hid (valS_len _ _ _ _ hl) ⟨h1, h2⟩, ofV_kin K (by omega) id x _ hid⟩
    · rw [ht]
      exact ⟨ofV_is K hK (by omega) id _ _ hid hv' ⟨by simp; omega, by simp; omega⟩, ofV_kin K (by omega) id _ _ hid⟩
  have hE : ∀ s ∈ out, isE s.data.toList = 0 := fun s hs => (hmem s (hp.mem s hs)).1
  have hk : ∀ s ∈ out, kinO s = (K, ⟨id.toArray⟩) := fun s hs => (hmem s (hp.mem s hs)).2
  have htog : togE out = 0 := togE_good hE (fun s hs u hu => by rw [hk s hs, hk u hu]) hnd
  have h0 : 0 < out.length := by omega
  have hk0 := hk _ (List.getElem_mem h0)
  have hperm := hp.perm (by rw [ho, List.length_set, hll])
  refine join_split htog _ (List.getElem?_eq_getElem h0) (by rw [hk0]; simp; omega) ?_
  rw [hk0]
  intro hall
  have hps : ∀ p ∈ out.map ptO, p.2.length = 32 := fun p hpm => by
    obtain ⟨s, hs, rfl⟩ := List.mem_map.1 hpm
    exact valD_len _ (hE s hs)
  obtain ⟨F, hF⟩ : ∃ F, F = (out.map ptO).take K := ⟨_, rfl⟩
  have hFl : F.length = K := by rw [hF]; simp; omega
  have hF32 : ∀ p ∈ F, p.2.length = 32 := fun p h => hps p (List.mem_of_mem_take (by rw [← hF]; exact h))
  have hFn : (xsOf F).Nodup := by rw [hF, xsOf_take]; exact hnd.sublist (List.take_sublist _ _)
  rw [← hF] at hall
  have hev : ∀ p ∈ out.map ptO, atR F p.1 = p.2 := fun p hpm => by
    rw [← List.take_append_drop K (out.map ptO), List.mem_append] at hpm
    rcases hpm with h | h
    · exact atR_own F hF32 hFn p (by rw [hF]; exact h)
    · exact hall p h
  apply hne
  have hti : ptO t ∈ out.map ptO := List.mem_map.2 ⟨t, hperm.mem_iff.2 (List.mem_of_getElem? (List.getElem?_set_self (by omega))), rfl⟩
  have h1 := hev _ hti
  rw [hpt] at h1
  have h1 : atR F (UInt8.ofNat (i + 1)) = v' := h1
  rw [← h1]
  refine list_getD_ext _ _ (by rw [atR_len F _ hF32, valS_len _ _ _ _ hl]) fun j hj => ?_
  rw [atR_len F _ hF32] at hj
  rw [atR_thr F hF32 _ j hj, valS_get m c K _ j hl hj]
  refine same_of_roots (((List.range N).erase i).map fun a => UInt8.ofNat (a + 1)) _ _ (places_nodup N hN _ (List.nodup_range.erase i) fun a ha => List.mem_range.1 (List.mem_of_mem_erase ha)) ?_ ?_ ?_ _
  · rw [thr_len, xsOf_len, hFl, List.length_map, List.length_erase_of_mem (List.mem_range.2 hi), List.length_range]; omega
  · rw [thr_len, xsOf_len, hFl, coefs_len]
  · intro x hx
    obtain ⟨a, ha, rfl⟩ := List.mem_map.1 hx
    obtain ⟨hai, haN⟩ := (List.nodup_range.mem_erase_iff).1 ha
    have haN := List.mem_range.1 haN
    obtain ⟨s, hs, hsh, hspt⟩ := hpl a haN
    have hsm : s ∈ l.set i t := List.mem_of_getElem? (i := a) (by rw [List.getElem?_set_ne (by omega)]; exact hs)
    have := hev (ptO s) (List.mem_map.2 ⟨s, hperm.mem_iff.2 hsm, rfl⟩)
    rw [hspt] at this
    rw [← atR_thr F hF32 _ j hj, ← valS_get m c K _ j hl hj]
    show (atR F (UInt8.ofNat (a + 1))).getD j 0 = _
    rw [this]
/-- With a share under another id: of unlike splits. -/
theorem join_other {m id c v' id' : List UInt8} {N K i : Nat} (hK : 1 ≤ K) (hKN : K < N) (hN : N ≤ 16) (hi : i < N) (hid : id.length = 8) (hid' : id'.length = 8) (hl : 32 * K ≤ m.length + c.length) (hv' : v'.length = 32)
    (hne : id' ≠ id) {out : List ByteArray} (hp : Pick ((splitB m id c N K).set i (ofV K id' (UInt8.ofNat (i + 1)) v')) out) (ho : out.length = N) : joinV out = ([], 260) := by
  have hll : (splitB m id c N K).length = N := splitB_len ..
  have hmem : ∀ s ∈ (splitB m id c N K).set i (ofV K id' (UInt8.ofNat (i + 1)) v'), isE s.data.toList = 0 := fun s hs => by
    rcases List.mem_or_eq_of_mem_set hs with hs | rfl
    · obtain ⟨x, h1, h2, rfl⟩ := splitB_shar hN s hs
      exact ofV_is K hK (by omega) id x _ hid (valS_len _ _ _ _ hl) ⟨h1, h2⟩
    · exact ofV_is K hK (by omega) id' _ _ hid' hv' ⟨by simp; omega, by simp; omega⟩
  have hperm := hp.perm (by rw [ho, List.length_set, hll])
  have htog : togE out = 260 := by
    refine togE_unlike (fun s hs => hmem s (hp.mem s hs)) fun hall => ?_
    obtain ⟨a, ha, hai⟩ : ∃ a, a < N ∧ i ≠ a := by
      by_cases h : i = 0
      · exact ⟨1, by omega, by omega⟩
      · exact ⟨0, by omega, by omega⟩
    have h1 := hperm.mem_iff.2 (List.mem_of_getElem? (List.getElem?_set_self (l := splitB m id c N K) (i := i) (a := ofV K id' (UInt8.ofNat (i + 1)) v') (by omega)))
    have h2 := hperm.mem_iff.2 (List.mem_of_getElem? (i := a) (by rw [List.getElem?_set_ne hai]; exact splitB_get m id c N K a ha))
    have := hall _ h1 _ h2
    rw [ofV_kin K (by omega) id' _ _ hid', ofV_kin K (by omega) id _ _ hid] at this
    have := congrArg (fun p => (p : Nat × ByteArray).2.data.toList) this
    simp at this
    exact hne this
  rw [join_bad (by rw [htog]; decide), htog]
end Go.Proofs.YtffhfmaphjjffaaDoor
