/- Own tactics, for development alone: they may not lie in a claim. expand.py writes their steps out. -/
import Derived.Test.YtffhfmaphjjffaaDoorUntil
namespace Go.Proofs.YtffhfmaphjjffaaDoor.Base
open Go

open Lean Elab Tactic Meta in
/-- Takes first all that can be taken; hypotheses of the shape of S0 at the world, and of S1, are at hand. -/
partial def uTakes (tell : Bool) (log : String := "") : TacticM Unit := withMainContext do
  let t := (← instantiateMVars (← getMainTarget)).consumeMData
  unless t.isAppOfArity ``wpAnyU 11 do throwError "u_takes: no wpAnyU: {t}"
  let args := t.getAppArgs
  let md := args[1]!
  let ops := args[2]!
  let listed := args[8]!
  let ready ← kernelNats (mkApp3 (mkConst ``Region.ready) md ops listed)
  for i in ready do
    let isLoad := opHead ops i == some ``Op.load || opHead ops i == some ``Op.index
    if ((match opHead ops i with | some n => worldless.contains n | none => false) || isLoad || takenFirstToo ops i) && (← kernelBool (mkApp4 (mkConst ``Region.free) md ops listed (mkNatLit i))) then
      let some oe := opAt ops i | throwError "the region is not written out"
      let go (one : Bool) : TacticM Bool := do
        let s ← saveState
        try
          let oStx ← Term.exprToSyntax oe
          Tactic.withoutRecover do
           if one then evalTactic (← `(tactic| refine until_take1 (i := $(quote i)) (oi := $oStx) (v := ?_) rfl (by kernel_rfl) (by kernel_rfl) (by kernel_rfl) (fun _ _ _ h => h) (by decide) (by kernel_rfl) (by kernel_rfl) (Or.inl ⟨by rfl, ?_⟩) (by assumption) (fun _ => by assumption) ?_))
           else evalTactic (← `(tactic| refine until_take0 (i := $(quote i)) (oi := $oStx) (v := ?_) rfl (by kernel_rfl) (by kernel_rfl) (by kernel_rfl) (fun _ _ _ h => h) (by decide) (Or.inl ⟨by rfl, ?_⟩) (by assumption) (fun h => by first | assumption | exact absurd (h : true = false) (by decide)) ?_))
          let gs ← getGoals
          let [_, hy, rest] := gs | throwError "three goals expected"
          setGoals [hy]
          evalTactic (← `(tactic| (intro w hSw; (try dsimp only at hSw); (try go_simp))))
          unless (← getGoals).isEmpty do evalTactic (← `(tactic| with_reducible rfl))
          unless (← getGoals).isEmpty do throwError "not closed"
          setGoals [rest]
          evalTactic (← `(tactic| try simp only [Act.put, List.setIfInBounds_toArray, List.set_cons_zero, List.set_cons_succ]))
          pure true
        catch e =>
          s.restore
          if tell then logWarning m!"u_takes {i} {one}: {e.toMessageData}"
          pure false
      if (← go false) then
        uTakes tell (log ++ s!" 0:{i}")
        return
      if isLoad then
        if (← go true) then
          uTakes tell (log ++ s!" 1:{i}")
          return
  logWarning m!"UTAKES{log}"
elab "u_takes" : tactic => uTakes false
elab "u_takes?" : tactic => uTakes true
open Lean Elab Tactic Meta in
/-- The only operation that may come up: the goal is left as 'Oper.wp'. -/
elab "u_only" : tactic => withMainContext do
  let t := (← instantiateMVars (← getMainTarget)).consumeMData
  unless t.isAppOfArity ``wpAnyU 11 do throwError "u_only: no wpAnyU"
  let args := t.getAppArgs
  let [i] ← kernelNats (mkApp3 (mkConst ``Region.ready) args[1]! args[2]! args[8]!) | throwError "u_only: not one: {← kernelNats (mkApp3 (mkConst ``Region.ready) args[1]! args[2]! args[8]!)}"
  let some oe := opAt args[2]! i | throwError "not written out"
  let oStx ← Term.exprToSyntax oe
  logWarning m!"UONLY {i}"
  evalTactic (← `(tactic| refine until_only (i := $(quote i)) (oi := $oStx) rfl (by kernel_rfl) (by rfl) ?_))
open Lean Elab Tactic Meta in
/-- Two operations may come up: two goals. -/
elab "u_two" : tactic => withMainContext do
  let t := (← instantiateMVars (← getMainTarget)).consumeMData
  unless t.isAppOfArity ``wpAnyU 11 do throwError "u_two: no wpAnyU"
  let args := t.getAppArgs
  let [i, j] ← kernelNats (mkApp3 (mkConst ``Region.ready) args[1]! args[2]! args[8]!) | throwError "u_two: not two"
  let some oi := opAt args[2]! i | throwError "not written out"
  let some oj := opAt args[2]! j | throwError "not written out"
  let iStx ← Term.exprToSyntax oi
  let jStx ← Term.exprToSyntax oj
  logWarning m!"UTWO {i} {j}"
  evalTactic (← `(tactic| refine until_two (i := $(quote i)) (j := $(quote j)) (oi := $iStx) (oj := $jStx) rfl rfl (by kernel_rfl) (by rfl) (by rfl) ?_ ?_))
end Go.Proofs.YtffhfmaphjjffaaDoor.Base
