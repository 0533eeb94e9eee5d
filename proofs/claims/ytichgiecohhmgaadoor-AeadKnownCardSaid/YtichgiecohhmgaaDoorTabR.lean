/- The table of chacha's rounds, as the program's text lays it. -/
import Derived.Test.YtichgiecohhmgaaDoorRows
import Derived.Test.YtichgiecohhmgaaDoorTab
import Derived.Test.YtichgiecohhmgaaDoorStir
namespace Go.Proofs.YtichgiecohhmgaaDoor
open Go.RowKit Go.Lib Base
set_option linter.unusedVariables false
set_option linter.unusedSimpArgs false
theorem rounds_of {W : World} {l : List (String × DataW Unit)} (h : laidMet Tryd.prog l W) (hm : ("casket/chacha.rounds", Rows.laid_casket_chacha_rounds) ∈ l) : Rounds W := by
  obtain ⟨ps, hv, _⟩ := h
  obtain ⟨g, t, cs, fuel, p, hg, ht, hvar, hd⟩ := laidVars_has hv hm
  have h0 : Tryd.prog.globalNamed "casket/chacha.rounds" = some 0 := by kernel_rfl
  have h1 : (Tryd.prog.globals[0]?).map (·.type) = some 91 := by kernel_rfl
  obtain rfl := Option.some.inj (h0.symm.trans hg)
  obtain rfl := Option.some.inj (h1.symm.trans ht)
  have hd' : DataW.trod (fun _ => ()) Tryd.prog W 0 (fun _ => true) false fuel 91 cs.toList = some (.agg ([[0, 4, 8, 12], [1, 5, 9, 13], [2, 6, 10, 14], [3, 7, 11, 15], [0, 5, 10, 15], [1, 6, 11, 12], [2, 7, 8, 13], [3, 4, 9, 14]].map (tabData .i64)), p) := hd
  exact range_of_var hvar h0 (cells_of_tab2 (n := 8) (m := 4) Tryd.underlying91 Tryd.underlying78 Tryd.underlying3 (by kernel_rfl) (by kernel_rfl) (by kernel_rfl) hd')
end Go.Proofs.YtichgiecohhmgaaDoor
