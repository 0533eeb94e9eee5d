/- The program's two tables of chapter 2, out of a row's list. -/
import Derived.Test.YtkagmoaapampgaaDoorRows
import Derived.Test.YtkagmoaapampgaaDoorTab
import Derived.Test.YtkagmoaapampgaaDoorShaSums
namespace Go.Proofs.YtkagmoaapampgaaDoor
open Go.RowKit Go.Lib Base
set_option linter.unusedVariables false
set_option linter.unusedSimpArgs false
theorem first_of {W : World} {l : List (String × DataW Unit)} (h : laidMet Tryd.prog l W) (hm : ("casket/sha.first", Rows.laid_casket_sha_first) ∈ l) : First W := by
  obtain ⟨ps, hv, _⟩ := h
  obtain ⟨g, t, cs, fuel, p, hg, ht, hvar, hd⟩ := laidVars_has hv hm
  have h0 : Tryd.prog.globalNamed "casket/sha.first" = some 0 := by kernel_rfl
  have h1 : (Tryd.prog.globals[0]?).map (·.type) = some 72 := by kernel_rfl
  obtain rfl := Option.some.inj (h0.symm.trans hg)
  obtain rfl := Option.some.inj (h1.symm.trans ht)
  have hd' : DataW.trod (fun _ => ()) Tryd.prog W 0 (fun _ => true) false fuel 72 cs.toList = some (tabData .u32 (firstL.map wd), p) := hd
  exact range_of_var hvar h0 (by rw [cells_of_tab (n := 8) Tryd.underlying72 Tryd.underlying70 (by kernel_rfl) (by kernel_rfl) hd', List.map_map]; rfl)
theorem roots_of {W : World} {l : List (String × DataW Unit)} (h : laidMet Tryd.prog l W) (hm : ("casket/sha.roots", Rows.laid_casket_sha_roots) ∈ l) : Roots W := by
  obtain ⟨ps, hv, _⟩ := h
  obtain ⟨g, t, cs, fuel, p, hg, ht, hvar, hd⟩ := laidVars_has hv hm
  have h0 : Tryd.prog.globalNamed "casket/sha.roots" = some 1 := by kernel_rfl
  have h1 : (Tryd.prog.globals[1]?).map (·.type) = some 85 := by kernel_rfl
  obtain rfl := Option.some.inj (h0.symm.trans hg)
  obtain rfl := Option.some.inj (h1.symm.trans ht)
  have hd' : DataW.trod (fun _ => ()) Tryd.prog W 0 (fun _ => true) false fuel 85 cs.toList = some (tabData .u32 (rootsL.map wd), p) := hd
  exact range_of_var hvar h0 (by rw [cells_of_tab (n := 64) Tryd.underlying85 Tryd.underlying70 (by kernel_rfl) (by kernel_rfl) hd', List.map_map]; rfl)
end Go.Proofs.YtkagmoaapampgaaDoor
