/- The ideal sealer: the table of its tags; Fresh. -/
import Derived.Test.YthalpgandfbkdaaIdlB
import Derived.Test.YthalpgandfbkdaaQuiet
import Derived.StringKeys
namespace Go.Proofs.Ythalpgandfbkdaa
open Go.RowKit Go.Lib Go.Joins Base Go.Maps
set_option linter.unusedVariables false
set_option linter.unusedSimpArgs false

/-- The key as it is read. -/
def keyS (t : ByteArray) : Lit := .string t.data.toList
theorem keyS_of (t : ByteArray) (h : t.size ≤ maxLen) : keyOf Try.prog 9 (.string t) = some (keyS t) := WideMaps.keyOf_string_mk Try.underlying9 h
theorem keyS_inj {a b : ByteArray} (h : a ≠ b) : keyS a ≠ keyS b := by
  intro e
  unfold keyS at e
  injection e with e
  exact h (ByteArray.ext (Array.toList_inj.1 e))
/-- At each tag stands F's number. -/
def Tab (w : World) (b n : Nat) (F : ByteArray → Int) : Prop :=
  ∃ D, Tags w b n D ∧ IsMap D ∧ ∀ t : ByteArray, D.atKey (keyS t) (.lit (.int .i64 0)) = .lit (.int .i64 (F t))
theorem Tab.lt {w : World} {b n : Nat} {F} (h : Tab w b n F) : b < w.heap.size := by
  obtain ⟨D, h1, _⟩ := h
  exact World.ownsMap.lt h1
theorem Tab.fr {w w' : World} {b n : Nat} {F} (h : Tab w b n F) {S : List Nat} (f : Fr S w w') (hS : b ∉ S) : Tab w' b n F := by
  obtain ⟨D, h1, h2, h3⟩ := h
  refine ⟨D, ?_, h2, h3⟩
  have hlt := World.ownsMap.lt h1
  obtain ⟨es, clock, hb, r⟩ := h1
  exact ⟨es, clock, (f.block b hlt hS).trans hb, r⟩
theorem Tab.made {w : World} {b : Nat} (h : Tags w b 0 (.map [])) : Tab w b 0 (fun _ => 0) := ⟨_, h, isMap_empty, fun _ => rfl⟩
theorem Tab.look {w : World} {b n : Nat} {F} (h : Tab w b n F) (t : ByteArray) (ht : t.size ≤ maxLen) :
    (Instr.lookup 58 (.map (some b)) (.string t) false).run Try.prog w = .ok (.int .i64 (F t)) w := by
  obtain ⟨D, h1, h2, h3⟩ := h
  obtain ⟨c, hrun, hat, _⟩ := World.ownsMap.lookup_int h1 lawS Try.underlying58 Try.underlying3 (zeroI _) (keyS_of t ht)
  rw [h3 t] at hat
  injection hat with e
  injection e with _ e
  rw [e]; exact hrun
theorem Tab.put {w : World} {b n : Nat} {F} (h : Tab w b n F) (t : ByteArray) (ht : t.size ≤ maxLen) (hn : n < maxLen) (v : Int) (hv : (Lit.int .i64 v).wf = true) :
    ∃ w', (Instr.mapUpdate 58 (.map (some b)) (.string t) (.int .i64 v)).run Try.prog w = .ok () w' ∧ Tab w' b (n + 1) (fun x => if x = t then v else F x) ∧ Fr [b] w w' := by
  obtain ⟨D, h1, h2, h3⟩ := h
  obtain ⟨w', hrun, hown, hg⟩ := World.ownsMap.update h1 lawS Try.underlying58 hn (keyS_of t ht) (plainElem_int Try.underlying3 hv)
  refine ⟨w', hrun, ⟨_, hown, h2.put _ _, fun x => ?_⟩, Fr.ofGrown hg (by rintro k e; injection e with e; simp [e])⟩
  by_cases hx : x = t
  · subst hx
    simp only [if_true]
    rw [atKey_put_same h2 (by exact trivial)]
  · simp only [if_neg hx]
    rw [atKey_put_other (keyS_inj hx), h3 x]

theorem tag_len (c : ByteArray) (h : 16 ≤ c.size) : (tagB c).size = 16 := by
  unfold tagB; rw [ByteArray.size_extract]; omega
set_option maxRecDepth 100000 in
set_option maxHeartbeats 2000000 in
theorem fresh_any (p b n : Nat) (v : Value) (F : ByteArray → Int) (c : ByteArray) (hc : 40 ≤ c.size ∧ c.size ≤ 1048576) (w : World) (hA : At w p 62 [v, .map (some b)]) (hT : Tab w b n F) :
    Calls Try.prog 9 #[.pointer (some ⟨p, 0, none⟩), .string c] w fun e w' => e = .returned (.bool (F (tagB c) == 0)) ∧ Fr [] w w' := by
  have tl := tag_len c (by omega)
  have w1 : IntKind.i64.wrap ((c.size : Int) - 40) = (c.size : Int) - 40 := IntWalk.i64_in _ (by omega)
  have c1 := fun w => sizeOK_any ((c.size : Int) - 40) (by omega) w
  have c2 := fun w => (tag_any c (by omega) hc.2 w).mono (R' := fun e w' => e = .returned (.string (tagB c)) ∧ Fr [] w w') (fun e w' ⟨h1, h2⟩ => ⟨h1, h2 ▸ Fr.refl _ _⟩)
  obtain ⟨G, hG⟩ : ∃ G : World → Prop, G = Fr [] w := ⟨_, rfl⟩
  have gW : ∀ w', G w' ↔ Fr [] w w' := fun w' => by rw [hG]
  clear hG
  have g2 : ∀ x : Gw G, Fr [] w x.w := fun x => (gW _).1 x.ok
  have hA' : ∀ x : Gw G, At x.w p 62 [v, .map (some b)] := fun x => (g2 x).keep hA (by simp)
  have hpa := fun x : Gw G => part0 (hA' x)
  have hcell : ∀ x : Gw G, x.w.cell? ⟨p, 1, none⟩ = some (.map (some b)) := fun x => (hA' x).cell 1
  have hlk : ∀ x : Gw G, (Instr.lookup 58 (.map (some b)) (.string (tagB c)) false).run Try.prog x.w = .ok (.int .i64 (F (tagB c))) x.w := fun x => (hT.fr (g2 x) (by simp)).look _ (by unfold maxLen; omega)
  have g1 : ∀ (x : Gw G) w', Fr [] x.w w' → G w' := fun x w' f => (gW _).2 ((g2 x).trans f)
  have g0 : G w.drew := (gW _).2 (Fr.drew _ _)
  have ne : Nonempty (Gw G) := ⟨⟨_, g0⟩⟩
  generalize F (tagB c) = r at *
  clear hA' hT hA tl
  go_enter Try.func9, Try.ntmps9
  go_wp2_with fail
  refine wp_region_gw G (by kernel_rfl) (by kernel_rfl) g0 ?_
  repeat (go_big_quiet_step (first
    | (go_at_call 22; exact gw_call (c1 _) (g1 _))
    | (go_at_call 11; exact gw_call (c2 _) (g1 _))))
  refine wpQuiet_nil ?_
  rintro _ ⟨x, rfl⟩
  have f := g2 x
  go_wp2_with fail
  go_ret
  exact ⟨rfl, f⟩
end Go.Proofs.Ythalpgandfbkdaa
