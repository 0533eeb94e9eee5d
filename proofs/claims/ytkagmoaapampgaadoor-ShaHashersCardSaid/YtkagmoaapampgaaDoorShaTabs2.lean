/- The document's two tables of chapter 2, out of a row's list. -/
import Derived.Test.YtkagmoaapampgaaDoorRows
import Derived.Test.YtkagmoaapampgaaDoorTab
import Derived.Test.YtkagmoaapampgaaDoorRef2E
namespace Go.Proofs.YtkagmoaapampgaaDoor
open Go.RowKit Go.Lib Base
set_option linter.unusedVariables false
set_option linter.unusedSimpArgs false
theorem refroots_of {W : World} {l : List (String × DataW Unit)} (h : laidMet Tryd.prog l W) (hm : ("casket/casketref2.roots", Rows.laid_casket_casketref2_roots) ∈ l) : RefRoots W := by
  obtain ⟨ps, hv, _⟩ := h
  obtain ⟨g, t, cs, fuel, p, hg, ht, hvar, hd⟩ := laidVars_has hv hm
  have h0 : Tryd.prog.globalNamed "casket/casketref2.roots" = some 2 := by kernel_rfl
  have h1 : (Tryd.prog.globals[2]?).map (·.type) = some 87 := by kernel_rfl
  obtain rfl := Option.some.inj (h0.symm.trans hg)
  obtain rfl := Option.some.inj (h1.symm.trans ht)
  have hd' : DataW.trod (fun _ => ()) Tryd.prog W 0 (fun _ => true) false fuel 87 cs.toList = some (tabData .i64 (rootsL.map wd), p) := hd
  exact range_of_var hvar h0 (by rw [cells_of_tab (n := 64) Tryd.underlying87 Tryd.underlying3 (by kernel_rfl) (by kernel_rfl) hd', List.map_map]; rfl)
theorem powers_of {W : World} {l : List (String × DataW Unit)} (h : laidMet Tryd.prog l W) (hm : ("casket/casketref2.powers", Rows.laid_casket_casketref2_powers) ∈ l) : Powers W := by
  obtain ⟨ps, hv, _⟩ := h
  obtain ⟨g, t, cs, fuel, p, hg, ht, hvar, hd⟩ := laidVars_has hv hm
  have h0 : Tryd.prog.globalNamed "casket/casketref2.powers" = some 3 := by kernel_rfl
  have h1 : (Tryd.prog.globals[3]?).map (·.type) = some 92 := by kernel_rfl
  obtain rfl := Option.some.inj (h0.symm.trans hg)
  obtain rfl := Option.some.inj (h1.symm.trans ht)
  have hd' : DataW.trod (fun _ => ()) Tryd.prog W 0 (fun _ => true) false fuel 92 cs.toList = some (tabData .i64 powersL, p) := hd
  exact range_of_var hvar h0 (by rw [cells_of_tab (n := 33) Tryd.underlying92 Tryd.underlying3 (by kernel_rfl) (by kernel_rfl) hd'])
end Go.Proofs.YtkagmoaapampgaaDoor
