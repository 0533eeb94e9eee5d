/- A region that asks for its order: an operation that reads may be taken first as long as what it reads is sure till the first store, and that store waits for it. No program here. -/
import Derived.Deep.RegionHeld3
import Derived.OrdersHeld
import Derived.StillTail
import Derived.RegionCalls
namespace Go.Proofs.Ythalpgandfbkdaa.Base
open Go
set_option linter.unusedVariables false
set_option linter.unusedSimpArgs false

section
variable {P : Program} {md : Region.Mode} {ops : Array Oper} {Q : Exit → Act → World → Prop} {S0 S1 : World → Prop} {t0 : Nat}

/-- Whatever order is picked: S0 holds behind every operation, S1 as long as the store t0 has not come up. -/
def wpAnyU (P : Program) (md : Region.Mode) (ops : Array Oper) (Q : Exit → Act → World → Prop) (S0 S1 : World → Prop) (t0 : Nat) : Nat → Array Bool → Act → World → Prop
  | 0, listed, a, w => Region.ready md ops listed = [] ∧ Q .normal a w
  | n + 1, listed, a, w => (Region.ready md ops listed = [] → Q .normal a w) ∧
    ∀ i ∈ Region.ready md ops listed, wpOp P ops Q i (fun a' w' => (S0 w' ∧ ((listed.setIfInBounds i true).getD t0 false = false → S1 w')) ∧ wpAnyU P md ops Q S0 S1 t0 n (listed.setIfInBounds i true) a' w') a w

theorem wpAny_of_until : ∀ (n : Nat) (listed : Array Bool) (a : Act) (w : World), wpAnyU P md ops Q S0 S1 t0 n listed a w → wpAny P md ops Q n listed a w
  | 0, _, _, _, h => h
  | n + 1, _, _, _, h => ⟨h.1, fun i hi => wpOp_mono (fun a' w' h' => wpAny_of_until n _ a' w' h'.2) (h.2 i hi)⟩

/-- The state that the lemma speaks of: i may be taken first there. S: what i leans on. -/
theorem until_take {S : World → Prop} {i : Nat} {oi : Oper} {v : Value} (hi : ops[i]? = some oi) (hsel : ∀ (j : Nat) (o : Oper) cs b, ops[j]? = some o → o.op ≠ .select cs b)
    (hQ : ∀ c a w, Q (.panic c) (a.put oi.dst v) w → Q (.panic c) a w) (hit : i ≠ t0)
    (hS : ∀ (listed : Array Bool) w, listed.getD i true = false → (i ∈ Region.ready md ops listed) → listed.getD t0 false = false ∨ (∀ w, S0 w → S w) → S0 w → (listed.getD t0 false = false → S1 w) → S w)
    (hkeep : ∀ (listed : Array Bool) j, i ∈ Region.ready md ops listed → j ∈ Region.ready md ops listed → j ≠ i → (listed.getD t0 false = false ∨ (∀ w, S0 w → S w)) → ((listed.setIfInBounds j true).getD t0 false = false ∨ (∀ w, S0 w → S w))) :
    ∀ (n : Nat) (listed : Array Bool) (a : Act) (w : World),
      (∀ j oj, ops[j]? = some oj → j ≠ i → listed.getD j true = false → (∀ e ∈ oj.after, Region.binds md e = true → e.on ≠ i) → oi.apart ops oj = true) →
      i ∈ Region.ready md ops listed → (listed.getD t0 false = false ∨ (∀ w, S0 w → S w)) → YieldsIf P ops S oi v a → S0 w → (listed.getD t0 false = false → S1 w) →
      ((listed.setIfInBounds i true).getD t0 false = false → S1 w) →
      wpAnyU P md ops Q S0 S1 t0 n (listed.setIfInBounds i true) (a.put oi.dst v) w → wpAnyU P md ops Q S0 S1 t0 (n + 1) listed a w := by
  intro n
  induction n with
  | zero =>
    intro listed a w _ hr hd hy h0 h1 h1' H
    have hun := (mem_ready.1 hr).1
    refine ⟨fun h => (by rw [h] at hr; cases hr), fun j hj => ?_⟩
    by_cases hji : j = i
    · subst hji; exact hy.wpOp hi (hS listed w hun hr hd h0 h1) ⟨⟨h0, h1'⟩, H⟩
    · have := ready_mono hj hji
      rw [H.1] at this
      cases this
  | succ n ih =>
    intro listed a w hfree hr hd hy h0 h1 h1' H
    have hun := (mem_ready.1 hr).1
    refine ⟨fun h => (by rw [h] at hr; cases hr), fun j hj => ?_⟩
    by_cases hji : j = i
    · subst hji; exact hy.wpOp hi (hS listed w hun hr hd h0 h1) ⟨⟨h0, h1'⟩, H⟩
    · have g1 := H.2 j (ready_mono hj hji)
      obtain ⟨hjun, oj, hoj, hall⟩ := mem_ready.1 hj
      have hnot : ∀ e ∈ oj.after, Region.binds md e = true → e.on ≠ i := fun e he hb heq => by
        have k1 := hall e he hb
        rw [heq] at k1
        rcases Nat.lt_or_ge i listed.size with h' | h'
        · simp [h'] at hun k1; rw [hun] at k1; cases k1
        · simp [Array.getElem?_eq_none h'] at k1
      have g2 := wpOp_putIf hoj (hfree j oj hoj hji hjun hnot) (fun cs b => hsel i oi cs b hi) (fun cs b => hsel j oj cs b hoj) hQ hy g1
      have hfree' : ∀ k ok, ops[k]? = some ok → k ≠ i → (listed.setIfInBounds j true).getD k true = false →
          (∀ e ∈ ok.after, Region.binds md e = true → e.on ≠ i) → oi.apart ops ok = true := fun k ok hk hki hkun hno => by
        refine hfree k ok hk hki ?_ hno
        by_cases hjk : j = k
        · subst hjk; exact hjun
        · rw [getD_set_ne true hjk] at hkun; exact hkun
      have hd' := hkeep listed j hr hj hji hd
      refine wpOp_mono (fun a' w' h3 => ?_) g2
      obtain ⟨hy', ⟨s0, s1⟩, H'⟩ := h3
      rw [Array.setIfInBounds_comm _ _ (Ne.symm hji)] at s1 H'
      have s1a : (listed.setIfInBounds j true).getD t0 false = false → S1 w' := fun hh => s1 (by rw [getD_set_ne false hit]; exact hh)
      exact ⟨⟨s0, s1a⟩, ih (listed.setIfInBounds j true) a' w' hfree' (ready_mono hr (Ne.symm hji)) hd' hy' s0 s1a s1 H'⟩

/-- Take number i first: it leans on S0 alone. -/
theorem until_take0 {i : Nat} {oi : Oper} {v : Value} {n : Nat} {listed : Array Bool} {a : Act} {w : World} (hi : ops[i]? = some oi)
    (hs : Region.noSelect ops = true) (hf : Region.free md ops listed i = true) (hr : (Region.ready md ops listed).contains i = true)
    (hQ : ∀ c a w, Q (.panic c) (a.put oi.dst v) w → Q (.panic c) a w) (hit : i ≠ t0) (hy : YieldsIf P ops S0 oi v a) (h0 : S0 w) (h1 : listed.getD t0 false = false → S1 w)
    (h : wpAnyU P md ops Q S0 S1 t0 n (listed.setIfInBounds i true) (a.put oi.dst v) w) : wpAnyU P md ops Q S0 S1 t0 (n + 1) listed a w :=
  until_take (S := S0) hi (Region.noSelect_spec hs) hQ hit (fun _ _ _ _ _ h _ => h) (fun _ _ _ _ _ _ => .inr fun _ h => h) n listed a w (Region.free_spec hi hf) (by simpa using hr) (.inr fun _ h => h) hy h0 h1
    (fun hh => h1 (by rw [getD_set_ne false hit] at hh; exact hh)) h

/-- Take number i first: the store t0 waits for it, so S1 stands while it has not come up. -/
theorem until_take1 {i : Nat} {oi : Oper} {v : Value} {n : Nat} {listed : Array Bool} {a : Act} {w : World} (hi : ops[i]? = some oi)
    (hs : Region.noSelect ops = true) (hf : Region.free md ops listed i = true) (hr : (Region.ready md ops listed).contains i = true)
    (hQ : ∀ c a w, Q (.panic c) (a.put oi.dst v) w → Q (.panic c) a w) (hit : i ≠ t0) (hw : Region.waitsFor md ops t0 i = true) (hd : listed.getD t0 false = false)
    (hy : YieldsIf P ops (fun w => S0 w ∧ S1 w) oi v a) (h0 : S0 w) (h1 : listed.getD t0 false = false → S1 w)
    (h : wpAnyU P md ops Q S0 S1 t0 n (listed.setIfInBounds i true) (a.put oi.dst v) w) : wpAnyU P md ops Q S0 S1 t0 (n + 1) listed a w := by
  obtain ⟨ot, hot, e, he, hb, hon⟩ := Region.waitsFor_spec hw
  refine until_take (S := fun w => S0 w ∧ S1 w) hi (Region.noSelect_spec hs) hQ hit (fun l w hun hrd hl s0 s1 => ?_) (fun l j hri hrj hji hl => ?_) n listed a w (Region.free_spec hi hf) (by simpa using hr) (.inl hd) hy h0 h1
    (fun hh => h1 (by rw [getD_set_ne false hit] at hh; exact hh)) h
  · rcases hl with hl | hl
    · exact ⟨s0, s1 hl⟩
    · exact hl w s0
  · rcases hl with hl | hl
    · left
      by_cases hj : j = t0
      · subst hj
        obtain ⟨_, oj, hoj, hall⟩ := mem_ready.1 hrj
        have : oj = ot := Option.some.inj (hoj.symm.trans hot)
        subst this
        have k1 := hall e he hb
        rw [hon, getD_both (mem_ready.1 hri).1] at k1
        cases k1
      · rw [getD_set_ne false hj]; exact hl
    · exact .inr hl

/-- The one operation that may come up, comes up. -/
theorem until_only {i : Nat} {oi : Oper} {n : Nat} {listed : Array Bool} {a : Act} {w : World} (hi : ops[i]? = some oi) (hr : Region.ready md ops listed = [i])
    (hwn : Region.wanted oi (yielded ops a.tmps) = true)
    (h : ∀ K' : Act → World → Prop, (∀ a w', S0 w' → ((listed.setIfInBounds i true).getD t0 false = false → S1 w') → wpAnyU P md ops Q S0 S1 t0 n (listed.setIfInBounds i true) a w' → K' a w') → oi.wp P a w K' Q) :
    wpAnyU P md ops Q S0 S1 t0 (n + 1) listed a w := by
  refine ⟨fun h0 => (by rw [hr] at h0; cases h0), fun j hj => ?_⟩
  rw [hr] at hj
  obtain rfl : j = i := by simpa using hj
  unfold wpOp
  simp only [hi, hwn, if_true]
  exact .inl (h _ fun a w' s0 s1 hU => ⟨⟨s0, s1⟩, hU⟩)

/-- Two may come up. -/
theorem until_two {i j : Nat} {oi oj : Oper} {n : Nat} {listed : Array Bool} {a : Act} {w : World} (hi : ops[i]? = some oi) (hj : ops[j]? = some oj) (hr : Region.ready md ops listed = [i, j])
    (hwi : Region.wanted oi (yielded ops a.tmps) = true) (hwj : Region.wanted oj (yielded ops a.tmps) = true)
    (h1 : ∀ K' : Act → World → Prop, (∀ a w', S0 w' → ((listed.setIfInBounds i true).getD t0 false = false → S1 w') → wpAnyU P md ops Q S0 S1 t0 n (listed.setIfInBounds i true) a w' → K' a w') → oi.wp P a w K' Q)
    (h2 : ∀ K' : Act → World → Prop, (∀ a w', S0 w' → ((listed.setIfInBounds j true).getD t0 false = false → S1 w') → wpAnyU P md ops Q S0 S1 t0 n (listed.setIfInBounds j true) a w' → K' a w') → oj.wp P a w K' Q) :
    wpAnyU P md ops Q S0 S1 t0 (n + 1) listed a w := by
  refine ⟨fun h0 => (by rw [hr] at h0; cases h0), fun k hk => ?_⟩
  rw [hr] at hk
  simp only [List.mem_cons, List.not_mem_nil, or_false] at hk
  rcases hk with rfl | rfl
  · unfold wpOp
    simp only [hi, hwi, if_true]
    exact .inl (h1 _ fun a w' s0 s1 hU => ⟨⟨s0, s1⟩, hU⟩)
  · unfold wpOp
    simp only [hj, hwj, if_true]
    exact .inl (h2 _ fun a w' s0 s1 hU => ⟨⟨s0, s1⟩, hU⟩)

theorem until_done {listed : Array Bool} {a : Act} {w : World} (hr : Region.ready md ops listed = []) (h : Q .normal a w) : ∀ n, wpAnyU P md ops Q S0 S1 t0 n listed a w
  | 0 => ⟨hr, h⟩
  | _ + 1 => ⟨fun _ => h, by rw [hr]; simp⟩

theorem wp_region_until {id : Nat} {a : Act} {w : World} (S0 S1 : World → Prop) (t0 : Nat) (hm : P.follows .mixedOrders = true)
    (h : wpAnyU P .any ops Q S0 S1 t0 ops.size (Array.replicate ops.size false) a w.drew) : (Code.region id ops true).wp P Q a w :=
  wp_region_any hm (wpAny_of_until _ _ _ _ h)
end

section
variable {P : Program} {md : Region.Mode} {ops : Array Oper} {Q : Exit → Act → World → Prop} {S0 S1 : World → Prop} {t0 : Nat}
theorem until_t0 (i : Nat) {oi : Oper} {v : Value} {n : Nat} {listed : Array Bool} {a : Act} {w : World} (hi : ops[i]? = some oi)
    (hs : (Region.noSelect ops && Region.free md ops listed i && (Region.ready md ops listed).contains i && decide (i ≠ t0)) = true)
    (hQ : ∀ c a w, Q (.panic c) (a.put oi.dst v) w → Q (.panic c) a w) (hy : YieldsIf P ops S0 oi v a) (h0 : S0 w) (h1 : listed.getD t0 false = false → S1 w)
    (h : wpAnyU P md ops Q S0 S1 t0 n (listed.setIfInBounds i true) (a.put oi.dst v) w) : wpAnyU P md ops Q S0 S1 t0 (n + 1) listed a w := by
  simp only [Bool.and_eq_true] at hs
  exact until_take0 hi hs.1.1.1 hs.1.1.2 hs.1.2 hQ (of_decide_eq_true hs.2) hy h0 h1 h
theorem until_t1 (i : Nat) {oi : Oper} {v : Value} {n : Nat} {listed : Array Bool} {a : Act} {w : World} (hi : ops[i]? = some oi)
    (hs : (Region.noSelect ops && Region.free md ops listed i && (Region.ready md ops listed).contains i && decide (i ≠ t0) && Region.waitsFor md ops t0 i && !listed.getD t0 false) = true)
    (hQ : ∀ c a w, Q (.panic c) (a.put oi.dst v) w → Q (.panic c) a w) (hy : YieldsIf P ops (fun w => S0 w ∧ S1 w) oi v a) (h0 : S0 w) (h1 : listed.getD t0 false = false → S1 w)
    (h : wpAnyU P md ops Q S0 S1 t0 n (listed.setIfInBounds i true) (a.put oi.dst v) w) : wpAnyU P md ops Q S0 S1 t0 (n + 1) listed a w := by
  simp only [Bool.and_eq_true, Bool.not_eq_true'] at hs
  exact until_take1 hi hs.1.1.1.1.1 hs.1.1.1.1.2 hs.1.1.1.2 hQ (of_decide_eq_true hs.1.1.2) hs.1.2 hs.2 hy h0 h1 h
/-- The operations from number i on, laid open: so the operation itself is read off, with nothing left to reduce. -/
theorem at_of_drop {i : Nat} {oi : Oper} {rest : List Oper} (h : ops.toList.drop i = oi :: rest) : ops[i]? = some oi := by
  rw [← Array.getElem?_toList]
  have := congrArg (·[0]?) h
  simpa using this
theorem until_s0 (i : Nat) {oi : Oper} {rest : List Oper} {v : Value} {n : Nat} {listed : Array Bool} {a : Act} {w : World} (hi : ops.toList.drop i = oi :: rest)
    (hs : (Region.noSelect ops && Region.free md ops listed i && (Region.ready md ops listed).contains i && decide (i ≠ t0)) = true)
    (hQ : ∀ c a w, Q (.panic c) (a.put oi.dst v) w → Q (.panic c) a w) (hy : YieldsIf P ops S0 oi v a) (h0 : S0 w) (h1 : listed.getD t0 false = false → S1 w)
    (h : wpAnyU P md ops Q S0 S1 t0 n (listed.setIfInBounds i true) (a.put oi.dst v) w) : wpAnyU P md ops Q S0 S1 t0 (n + 1) listed a w := until_t0 i (at_of_drop hi) hs hQ hy h0 h1 h
theorem until_s1 (i : Nat) {oi : Oper} {rest : List Oper} {v : Value} {n : Nat} {listed : Array Bool} {a : Act} {w : World} (hi : ops.toList.drop i = oi :: rest)
    (hs : (Region.noSelect ops && Region.free md ops listed i && (Region.ready md ops listed).contains i && decide (i ≠ t0) && Region.waitsFor md ops t0 i && !listed.getD t0 false) = true)
    (hQ : ∀ c a w, Q (.panic c) (a.put oi.dst v) w → Q (.panic c) a w) (hy : YieldsIf P ops (fun w => S0 w ∧ S1 w) oi v a) (h0 : S0 w) (h1 : listed.getD t0 false = false → S1 w)
    (h : wpAnyU P md ops Q S0 S1 t0 n (listed.setIfInBounds i true) (a.put oi.dst v) w) : wpAnyU P md ops Q S0 S1 t0 (n + 1) listed a w := until_t1 i (at_of_drop hi) hs hQ hy h0 h1 h
theorem until_sole (i : Nat) {oi : Oper} {rest : List Oper} {n : Nat} {listed : Array Bool} {a : Act} {w : World} (hi : ops.toList.drop i = oi :: rest) (hr : Region.ready md ops listed = [i])
    (hwn : Region.wanted oi (yielded ops a.tmps) = true)
    (h : ∀ K' : Act → World → Prop, (∀ a w', S0 w' → ((listed.setIfInBounds i true).getD t0 false = false → S1 w') → wpAnyU P md ops Q S0 S1 t0 n (listed.setIfInBounds i true) a w' → K' a w') → oi.wp P a w K' Q) :
    wpAnyU P md ops Q S0 S1 t0 (n + 1) listed a w := until_only (at_of_drop hi) hr hwn h
end
end Go.Proofs.Ythalpgandfbkdaa.Base
