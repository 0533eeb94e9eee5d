/- Split of the document; what is refused. -/
import Derived.Test.YtffhfmaphjjffaaDoorSplD
import Derived.Test.YtffhfmaphjjffaaDoorRef2E
import Derived.Test.YtffhfmaphjjffaaDoorUntil
namespace Go.Proofs.YtffhfmaphjjffaaDoor
open Go.RowKit Go.Lib Go.Joins Base Gf
set_option linter.unusedVariables false
set_option linter.unusedSimpArgs false

set_option maxRecDepth 100000 in
set_option maxHeartbeats 2000000 in
theorem rshare_any (x k : UInt8) (xx kk : Int) (id vs : ByteArray) (hid : id.size = 8) (hvs : vs.size = 32) (hx : IntKind.u8.wrap xx = bt x) (hk : IntKind.u8.wrap kk = bt k) (w : World) (hP : Powers w) (hQ : RefRoots w) :
    Calls Tryd.prog 34 #[.int .i64 xx, .int .i64 kk, .string id, .string vs] w fun e w' => e = .returned (.string ⟨(textS x k id.data.toList vs.data.toList).toArray⟩) ∧ Fr [] w w' := by
  have hAb : bodyS x k id.data.toList vs.data.toList = [83, x, k] ++ id.data.toList ++ vs.data.toList := by simp [bodyS]
  obtain ⟨h3, hh3⟩ : ∃ h3 : ByteArray, h3 = ⟨#[83, x, k]⟩ := ⟨_, rfl⟩
  have hh3s : h3.size = 3 := by rw [hh3]; rfl
  obtain ⟨B, hB⟩ : ∃ B : ByteArray, B = h3 ++ id ++ vs := ⟨_, rfl⟩
  have hBd : B.data.toList = bodyS x k id.data.toList vs.data.toList := by
    rw [hB, ByteArray.data_append, ByteArray.data_append, Array.toList_append, Array.toList_append, hAb, hh3]
  have hBs : B.size = 43 := by rw [hB, ByteArray.size_append, ByteArray.size_append, hh3s, hvs, hid]
  have cS := fun w h1 h2 => rsum_any B (by omega) w h1 h2
  rw [hBd] at cS
  obtain ⟨S, hS⟩ : ∃ S : ByteArray, S = ⟨(shaL (bodyS x k id.data.toList vs.data.toList)).toArray⟩ := ⟨_, rfl⟩
  have hSs : S.size = 32 := by rw [hS]; show (shaL _).toArray.size = 32; rw [List.size_toArray, shaL_len]
  have hS8 : S.extract 0 8 = ⟨((shaL (bodyS x k id.data.toList vs.data.toList)).take 8).toArray⟩ := by rw [hS, str_take]
  obtain ⟨E, hE⟩ : ∃ E : ByteArray, E = ⟨((shaL (bodyS x k id.data.toList vs.data.toList)).take 8).toArray⟩ := ⟨_, rfl⟩
  have hEs : E.size = 8 := by rw [hE]; show ((shaL _).take 8).toArray.size = 8; simp [shaL_len]
  rw [← hE] at hS8
  rw [← hS] at cS
  have hres : (⟨(textS x k id.data.toList vs.data.toList).toArray⟩ : ByteArray) = B ++ E := by
    apply ByteArray.ext
    apply Array.toList_inj.1
    rw [ByteArray.data_append, Array.toList_append, hBd, hE]; rfl
  rw [hres]
  have hcv : (convert 55 9 (.slice (some ⟨w.heap.size, 0, none⟩) 3 3)).run Tryd.prog (w.alloc (.cells #[.int .u8 83, .int .u8 (bt x), .int .u8 (bt k)] 5)) = .ok (.string h3) (w.alloc (.cells #[.int .u8 83, .int .u8 (bt x), .int .u8 (bt k)] 5)) := by
    rw [hh3]; exact run_strB (P := Tryd.prog) (d := 9) Tryd.underlying55 Tryd.underlying5 Tryd.underlying9 _ w.heap.size 0 3 5 [83, x, k] [] [] (At.alloc_new w 5 #[.int .u8 83, .int .u8 (bt x), .int .u8 (bt k)]) rfl 3 rfl
  have k1 : ¬ 9223372036854775807 < h3.size + id.size := by omega
  have k2 : ¬ 9223372036854775807 < h3.size + id.size + vs.size := by omega
  have k4 : ¬ 9223372036854775807 < B.size + E.size := by omega
  have k5 : ¬ 9223372036854775807 < 43 + E.size := by omega
  have k6 : ¬ 9223372036854775807 < 3 + id.size := by omega
  have k7 : ¬ 9223372036854775807 < 3 + id.size + vs.size := by omega
  have HB := Lib.hid hB
  have hF := Fr.alloc [] w (.cells #[.int .u8 83, .int .u8 (bt x), .int .u8 (bt k)] 5)
  clear hAb hBd hS hE hres hEs hid hvs hBs hh3s hB hh3
  go_enter Tryd.func34, Tryd.ntmps34
  go_wp2_with (first
    | (go_at_call 47; rw [← HB.out]; refine (cS _ (hP.keep hF) (hQ.keep hF)).mono ?_; clear cS; rintro e w7 ⟨rfl, f7⟩)
    | fail)
  go_ret
  exact ⟨rfl, hF.trans f7⟩
end Go.Proofs.YtffhfmaphjjffaaDoor
