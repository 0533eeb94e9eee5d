/- A region that asks for its order and whose operations leave the world in a class G: one walk of the written order. No program here. -/
import Derived.BigQuiet
namespace Go.Proofs.Ythalpgandfbkdaa.Base
open Go
set_option linter.unusedVariables false
set_option linter.unusedSimpArgs false

/-- A world of the class G. -/
structure Gw (G : World → Prop) where
  w : World
  ok : G w
theorem wp_region_gw {P : Program} {id : Nat} {Q : Exit → Act → World → Prop} {a : Act} {w : World} {l : List Oper} (G : World → Prop) (hm : P.follows .mixedOrders = true) (hB : Region.lexB .any l.toArray = true) (h0 : G w.drew)
    (h : wpQuiet P l.toArray (fun w' => ∃ x : Gw G, w' = x.w) (fun a' => ∀ w', (∃ x : Gw G, w' = x.w) → Q .normal a' w') l a) : (Code.region id l.toArray true).wp P Q a w :=
  wp_region_quiet (C := fun w' => ∃ x : Gw G, w' = x.w) hm hB ⟨⟨_, h0⟩, rfl⟩ (by simpa using h)
/-- A callee's word, in the class. -/
theorem gw_call {P : Program} {f : FuncId} {args : Array Value} {w : World} {v : Value} {G R : World → Prop} (h : Calls P f args w fun e w' => e = .returned v ∧ R w') (hG : ∀ w', R w' → G w') : Calls P f args w fun e w' => e = .returned v ∧ ∃ x : Gw G, w' = x.w :=
  h.mono fun _ _ ⟨he, hg⟩ => ⟨he, ⟨⟨_, hG _ hg⟩, rfl⟩⟩
end Go.Proofs.Ythalpgandfbkdaa.Base
