/- What the tables hold that a row lists: flat ones and such of rows of one length. No program here. -/
import Derived.Test.YtichgiecohhmgaaDoorBase
import Derived.Lib.LaidTab
import Derived.Deep.MidRow
namespace Go.Proofs.YtichgiecohhmgaaDoor.Base
open Go.RowKit Go.Lib
set_option linter.unusedVariables false
set_option linter.unusedSimpArgs false

theorem laidVars_has {P : Program} {w : World} {n : String} {d : DataW Unit} : ∀ {l : List (String × DataW Unit)} {ps : List MemPlace}, DataW.LaidVars P w l ps → (n, d) ∈ l →
    ∃ g t cs fuel p, P.globalNamed n = some g ∧ (P.globals[g]?).map (·.type) = some t ∧ w.var? P n = some cs ∧ DataW.trod (fun _ => ()) P w 0 (fun _ => true) false fuel t cs.toList = some (d, p)
  | [], _, _, hm => by cases hm
  | (n', d') :: r, ps, h, hm => by
    obtain ⟨g, t, cs, fuel, p, q, h1, h2, h3, h4, h5, _⟩ := h
    rcases List.mem_cons.1 hm with e | e
    · injection e with e1 e2
      subst e1 e2
      exact ⟨g, t, cs, fuel, p, h1, h2, h3, h4⟩
    · exact laidVars_has h5 e

/-- A list is its pieces of one length. -/
theorem pieces {α : Type} (m : Nat) : ∀ (n : Nat) (cs : List α), cs.length = n * m → cs = ((List.range n).map fun i => (cs.drop (i * m)).take m).flatten
  | 0, cs, h => by
    have : cs = [] := List.eq_nil_of_length_eq_zero (by simpa using h)
    subst this; rfl
  | n + 1, cs, h => by
    have ih := pieces m n (cs.drop m) (by rw [List.length_drop, h, Nat.succ_mul]; omega)
    rw [List.range_succ_eq_map, List.map_cons, List.flatten_cons, List.map_map]
    have e : ((fun i => List.take m (List.drop (i * m) cs)) ∘ Nat.succ) = fun i => List.take m (List.drop (i * m) (List.drop m cs)) := by
      funext i
      simp only [Function.comp, List.drop_drop]
      congr 2
      rw [Nat.succ_mul]; omega
    rw [e, ← ih]
    simp

theorem cells_of_tab2 {H : Type} {enc : TypeId × Value → H} {P : Program} {w : World} {base : Nat} {sp : Nat → Bool} {held : Bool} {fuel : Nat} {t e u : TypeId} {n m : Nat} {k : IntKind} {cs : List Value} {zss : List (List Int)} {p : List MemPlace}
    (ht : P.underlying t = some (.array n e)) (he : P.underlying e = some (.array m u)) (hu : P.underlying u = some (.int k)) (hcu : P.cellsOf u = 1) (hce : P.cellsOf e = m) (hct : P.cellsOf t = n * m)
    (h : DataW.trod enc P w base sp held fuel t cs = some (.agg (zss.map (tabData k)), p)) : cs = zss.flatten.map fun z => Value.int k z := by
  cases fuel with
  | zero => simp [DataW.trod] at h
  | succ fuel =>
    simp only [DataW.trod, ht, hce, hct] at h
    split at h
    · rename_i hl
      obtain ⟨xs, hm, hx⟩ := Option.map_eq_some_iff.1 h
      have hxs : xs.map (·.1) = zss.map fun zs => (tabData k zs : DataW H) := by
        have := congrArg Prod.fst hx
        simpa using this
      have hxl : xs.length = n := by simpa using mapM_length hm
      have hzl : zss.length = n := by
        have := congrArg List.length hxs
        simp at this
        omega
      have hcl : cs.length = n * m := by simpa using hl
      rw [pieces m n cs hcl, List.map_flatten]
      congr 1
      apply List.ext_getElem?
      intro i
      by_cases hi : i < n
      · obtain ⟨b, hb, hf⟩ := mapM_at hm i i (by simp [hi])
        have h2 : (xs.map (·.1))[i]? = some b.1 := by simp [hb]
        rw [hxs, List.getElem?_map, List.getElem?_eq_getElem (by omega)] at h2
        have h3 := Option.some.inj h2
        have hf' : DataW.trod enc P w base sp held fuel e (List.take m (List.drop (i * m) cs)) = some (b.1, b.2) := hf
        have h4 := cells_of_tab (zs := zss[i]) he hu hcu hce (by rw [← h3] at hf'; exact hf')
        simp only [List.getElem?_map, List.getElem?_range hi, Option.map_some]
        rw [h4, List.getElem?_eq_getElem (by omega)]
        rfl
      · rw [List.getElem?_eq_none (by simp; omega), List.getElem?_eq_none (by simp; omega)]
    · cases h

theorem range_of_var {P : Program} {w : World} {n : String} {g : Nat} {cs : Array Value} {vs : List Value} (h : w.var? P n = some cs) (hg : P.globalNamed n = some g) (e : cs.toList = vs) : w.rangeAt g 0 vs := by
  intro j v hj
  have := World.var?_cell hg h j
  rw [← Array.getElem?_toList, e, hj] at this
  simpa using this
end Go.Proofs.YtichgiecohhmgaaDoor.Base
