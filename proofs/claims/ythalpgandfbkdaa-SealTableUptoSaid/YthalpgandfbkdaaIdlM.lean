/- The law's laid: all boxes sealed, one behind the other. -/
import Derived.Test.YthalpgandfbkdaaIdlL
import Derived.Deep.CutRange
namespace Go.Proofs.Ythalpgandfbkdaa
open Go.RowKit Go.Lib Go.Joins Base Go.Maps
set_option linter.unusedVariables false
set_option linter.unusedSimpArgs false

theorem own_block {w : World} {base size : Nat} {e : TypeId} {v : Value} {n : Nat} {xs : List Value} (h : w.ownsRow base e size v n xs) {g : Nat} (hg : g ∈ v.ownBlock.toList) :
    base ≤ g ∧ ∃ cur, w.heap[g]? = some (.cells cur e (0, 0)) := by
  obtain ⟨_, h' | ⟨g', cap, cur, hv, hb, hg', r⟩⟩ := h
  · rw [h'.1] at hg; simp [Value.ownBlock] at hg
  · rw [hv] at hg
    have : g = g' := by simpa [Value.ownBlock] using hg
    subst this
    exact ⟨hb, _, hg'⟩
theorem own_apart {w : World} {base base' size size' : Nat} {e e' : TypeId} {v v' : Value} {n n' : Nat} {xs xs' : List Value} (h : w.ownsRow base e size v n xs) (h' : w.ownsRow base' e' size' v' n' xs') (he : e ≠ e') {g : Nat} (hg : g ∈ v.ownBlock.toList) : g ∉ v'.ownBlock.toList := by
  intro hg'
  obtain ⟨_, cur, h1⟩ := own_block h hg
  obtain ⟨_, cur', h2⟩ := own_block h' hg'
  have := h1.symm.trans h2
  simp at this
  exact he this.2
theorem own_idl {w : World} {base base' p b size : Nat} {e : TypeId} {v vr : Value} {n : Nat} {xs : List Value} {rs : List Rw} {F} (h : w.ownsRow base' e size v n xs) (hI : Idl w base p b vr rs F) (h1 : e ≠ 62) (h2 : e ≠ 64) {g : Nat} (hg : g ∈ v.ownBlock.toList) :
    g ≠ p ∧ g ≠ b ∧ g ∉ vr.ownBlock.toList := by
  obtain ⟨_, cur, hc⟩ := own_block h hg
  refine ⟨?_, ?_, own_apart h hI.row h2 hg⟩
  · rintro rfl
    have := hc.symm.trans hI.at_.out
    simp at this
    exact h1 this.2
  · rintro rfl
    obtain ⟨D, ⟨es, clock, hb2, _⟩, _⟩ := hI.tab
    have := hc.symm.trans hb2
    simp at this
theorem own_slice {w : World} {base size : Nat} {e : TypeId} {v : Value} {n : Nat} {xs : List Value} (h : w.ownsRow base e size v n xs) :
    ∃ ao c, v = .slice ao n c ∧ (0 < n → ∃ g, ao = some ⟨g, 0, none⟩) := by
  rcases ownsRow_forms h with ⟨rfl, rfl⟩ | ⟨g, cap, rfl⟩
  · exact ⟨none, 0, rfl, fun h => absurd h (by omega)⟩
  · exact ⟨_, _, rfl, fun _ => ⟨g, rfl⟩⟩

theorem at_idl {w : World} {base p b g : Nat} {T : TypeId} {cs : List Value} {vr : Value} {rs : List Rw} {F} (h : At w g T cs) (hI : Idl w base p b vr rs F) (h1 : T ≠ 62) (h2 : T ≠ 64) :
    g ≠ p ∧ g ≠ b ∧ g ∉ vr.ownBlock.toList := by
  have hc := h.out
  refine ⟨?_, ?_, ?_⟩
  · rintro rfl
    have := hc.symm.trans hI.at_.out
    simp at this
    exact h1 this.2
  · rintro rfl
    obtain ⟨D, ⟨es, clock, hb2, _⟩, _⟩ := hI.tab
    have := hc.symm.trans hb2
    simp at this
  · intro hg
    obtain ⟨_, cur, hb⟩ := own_block hI.row hg
    have := hc.symm.trans hb
    simp at this
    exact h2 this.2
theorem fr_below {S : List Nat} {base : Nat} {a b : World} (h : Fr S a b) (hS : ∀ x ∈ S, base ≤ x) (hb : base ≤ a.heap.size) : Below base a b :=
  ⟨h.os, h.tape, h.output, h.size, fun k hk => h.block k (by omega) (fun hm => by have := hS k hm; omega)⟩
/-- What was sealed: the box as it may be, and the blob. -/
abbrev La := Bx × ByteArray
def laC (x : La) : List Value := bxC x.1 ++ [.string x.2]
theorem laC_len (x : La) : (laC x).length = 5 := rfl
theorem laid_one (x : La) : ∀ v ∈ laC x, v.oneCell' = true := by
  intro v hv; simp only [laC, bxC, List.mem_cons, List.mem_append, List.not_mem_nil, or_false] at hv; rcases hv with (rfl | rfl | rfl | rfl) | rfl <;> rfl
def rowOf (x : La) : Rw := (x.1.k, x.1.name, x.2, x.1.text)
def blobOf (j : Nat) (b : Bx) : ByteArray := ⟨(coinL (b.text.size + 40) (modN b.seed 1000003) j).toArray⟩
def laAt (j : Nat) (b : Bx) : La := (withinB b, blobOf j (withinB b))
def LL (bs : List Bx) : List La := bs.mapIdx laAt
theorem LL_len (bs : List Bx) : (LL bs).length = bs.length := by simp [LL]
theorem LL_get (bs : List Bx) (i : Nat) (b : Bx) (h : bs[i]? = some b) : (LL bs)[i]? = some (laAt i b) := by simp [LL, h]
theorem LL_take (bs : List Bx) (i : Nat) (b : Bx) (h : bs[i]? = some b) : (LL bs).take (i + 1) = (LL bs).take i ++ [laAt i b] := by
  rw [List.take_add_one, LL_get bs i b h]; rfl
theorem blob_size (j : Nat) (b : Bx) : (blobOf j b).size = b.text.size + 40 := by
  show (coinL _ _ _).toArray.size = _
  rw [List.size_toArray, coinL_len]
theorem blob_tag (i j : Nat) (a b : Bx) (hi : i < 256 ^ 8) (hj : j < 256 ^ 8) (h : tagX (blobOf i a) = tagX (blobOf j b)) : i = j :=
  coin_tag (a.text.size + 40) (b.text.size + 40) (modN a.seed 1000003) (modN b.seed 1000003) i j _ _ (by omega) (by omega) (by simp [blobOf]) (by simp [blobOf]) hi hj h
/-- A tag that is new. -/
theorem good_new (bs : List Bx) (i : Nat) (a : Bx) (hi : i ≤ bs.length) (hn : bs.length < 256 ^ 8) (F : ByteArray → Int) (h : Good (((LL bs).take i).map rowOf) F) : F (tagX (blobOf i a)) = 0 := by
  rcases h.1 (tagX (blobOf i a)) with h0 | ⟨j, r, hj, _, ht⟩
  · exact h0
  · exfalso
    rw [List.getElem?_map, Option.map_eq_some_iff] at hj
    obtain ⟨x, hx, rfl⟩ := hj
    have hji : j < i := by
      have := (List.getElem?_eq_some_iff.1 hx).1
      rw [List.length_take] at this; omega
    rw [List.getElem?_take_of_lt hji] at hx
    obtain ⟨b, hb⟩ : ∃ b, bs[j]? = some b := ⟨_, List.getElem?_eq_getElem (by omega)⟩
    rw [LL_get bs j b hb] at hx
    injection hx with hx
    subst hx
    have := blob_tag j i _ _ (by omega) (by omega) ht
    omega
theorem good_more (bs : List Bx) (i : Nat) (b : Bx) (hb : bs[i]? = some b) (hn : bs.length < 256 ^ 8) (F : ByteArray → Int) (h : Good (((LL bs).take i).map rowOf) F) :
    Good (((LL bs).take (i + 1)).map rowOf) (fun y => if y = tagX (blobOf i (withinB b)) then ((i + 1 : Nat) : Int) else F y) := by
  have hi : i < bs.length := (List.getElem?_eq_some_iff.1 hb).1
  have hl : (((LL bs).take i).map rowOf).length = i := by rw [List.length_map, List.length_take, LL_len]; omega
  have h0 := good_new bs i (withinB b) (by omega) hn F h
  rw [LL_take bs i b hb, List.map_append, List.map_singleton]
  constructor
  · intro t
    by_cases ht : t = tagX (blobOf i (withinB b))
    · refine .inr ⟨i, rowOf (laAt i b), ?_, by simp only [if_pos ht], ht.symm⟩
      rw [List.getElem?_append_right (by omega), hl, Nat.sub_self]; rfl
    · simp only [if_neg ht]
      rcases h.1 t with h1 | ⟨j, r, hj, hF, hr⟩
      · exact .inl h1
      · exact .inr ⟨j, r, by rw [List.getElem?_append_left (List.getElem?_eq_some_iff.1 hj).1]; exact hj, hF, hr⟩
  · intro j r hj
    rcases Nat.lt_or_ge j i with hji | hji
    · rw [List.getElem?_append_left (by omega)] at hj
      have h1 := h.2 j r hj
      have hne : tagX r.2.2.1 ≠ tagX (blobOf i (withinB b)) := fun e => by
        rw [e, h0] at h1; omega
      simp only [if_neg hne]
      exact h1
    · rw [List.getElem?_append_right (by omega), hl] at hj
      have : j = i := by
        have := (List.getElem?_eq_some_iff.1 hj).1
        simp at this; omega
      subst this
      rw [Nat.sub_self] at hj
      simp at hj
      subst hj
      have e : (rowOf (laAt j b)).2.2.1 = blobOf j (withinB b) := rfl
      rw [e]
      simp
end Go.Proofs.Ythalpgandfbkdaa
