/- The law SharesLinear, of a split's data. -/
import Derived.Test.YtffhfmaphjjffaaDoorLawLinearW
import Derived.Test.YtffhfmaphjjffaaDoorShrCut
namespace Go.Proofs.YtffhfmaphjjffaaDoor
open Go.RowKit Go.Lib Go.Joins Base
theorem linear_law2 {w : World} (v : Value) (x : CutV) (hv : IsCut v x) (m2 : ByteArray) (hm2 : m2.size ≤ 140737488351232) (c2 : ByteArray) (hc2 : c2.size ≤ 140737488351232) (hI : First w) (hR : Roots w) :
    Calls Tryd.prog 4 #[v, .string m2, .string c2] w fun e w' => e = .returned (.bool true) ∧ Fr [] w w' := by
  obtain ⟨rfl, h1, h2, h3, h4, h5⟩ := hv
  exact linear_law x.m x.i x.c x.n x.k h1 h2 h3 h4 h5 m2 hm2 c2 hc2 hI hR
end Go.Proofs.YtffhfmaphjjffaaDoor
