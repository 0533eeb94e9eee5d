/- Extract and Expand of the document. -/
import Derived.Test.YtbpaknnnkmjgjaaDoorKdfExpP
import Derived.Test.YtbpaknnnkmjgjaaDoorRef3
namespace Go.Proofs.YtbpaknnnkmjgjaaDoor
open Go.RowKit Go.Lib Go.Joins Base
set_option linter.unusedVariables false
set_option linter.unusedSimpArgs false

theorem rextract_any (key text : ByteArray) (hkey : key.size ≤ 140737488355328) (ht : text.size ≤ 140737488355264) (w : World) (hP : Powers w) (hQ : RefRoots w) :
    Calls Tryd.prog 29 #[.string key, .string text] w fun e w' => e = .returned (.string ⟨(hmacL key.data.toList text.data.toList).toArray⟩) ∧ Fr [] w w' := by
  have c1 := rkeyed_any key text hkey ht w hP hQ
  go_enter Tryd.func29, Tryd.ntmps29
  go_wp2_with (first
    | (go_at_call 41; refine c1.mono ?_; clear c1; rintro e w1 ⟨rfl, f1⟩)
    | fail)
  go_ret
  exact ⟨rfl, f1⟩

set_option maxRecDepth 100000 in
set_option maxHeartbeats 1000000 in
theorem rexpand_bad (prk info : ByteArray) (n : Int) (hn : n < 0 ∨ 8160 < n) (w : World) :
    Calls Tryd.prog 31 #[.string prk, .string info, .int .i64 n] w fun e w' => e = .returned (.tuple #[.string ⟨#[]⟩, .int .i64 31]) ∧ Fr [] w w' := by
  rcases hn with hn | hn
  · go_enter Tryd.func31, Tryd.ntmps31
    go_wp2_with fail
    go_ret2
    exact ⟨rfl, Fr.refl _ _⟩
  · have h0 : ¬ n < 0 := by omega
    go_enter Tryd.func31, Tryd.ntmps31
    go_wp2_with fail
    go_ret2
    exact ⟨rfl, Fr.refl _ _⟩

set_option maxRecDepth 100000 in
set_option maxHeartbeats 4000000 in
theorem rexpand_any (prk info : ByteArray) (hp : prk.size ≤ 140737488355328) (hf : info.size ≤ 140737488351232) (n : Nat) (hn : n ≤ 8160) (w : World) (hP : Powers w) (hQ : RefRoots w) :
    Calls Tryd.prog 31 #[.string prk, .string info, .int .i64 n] w fun e w' => e = .returned (.tuple #[.string ⟨(expL prk.data.toList info.data.toList n).toArray⟩, .int .i64 0]) ∧ Fr [] w w' := by
  obtain ⟨K, hK⟩ : ∃ K, K = prk.data.toList := ⟨_, rfl⟩
  obtain ⟨I, hIf⟩ : ∃ I, I = info.data.toList := ⟨_, rfl⟩
  rw [← hK, ← hIf]
  have cS : ∀ (i : Nat) (last sx : ByteArray) (w' : World), sx = ⟨#[UInt8.ofNat (i + 1)]⟩ → last.data.toList = expT K I i → Powers w' → RefRoots w' →
      Calls Tryd.prog 41 #[.string prk, .string (last ++ info ++ sx)] w' fun e w'' => e = .returned (.string ⟨(expT K I (i + 1)).toArray⟩) ∧ Fr [] w' w'' := fun i last sx w' hs h0 h1 h2 => by
    have hle := expT_le K I i
    have hls : last.size ≤ 32 := by have : last.data.toList.length = last.size := by simp
                                    rw [h0] at this; omega
    have hss : sx.size = 1 := by rw [hs]; rfl
    have := rkeyed_any prk (last ++ info ++ sx) hp (by rw [ByteArray.size_append, ByteArray.size_append]; omega) w' h1 h2
    have hj : (last ++ info ++ sx).data.toList = expT K I i ++ I ++ [UInt8.ofNat (i + 1)] := by
      rw [ByteArray.data_append, ByteArray.data_append, Array.toList_append, Array.toList_append, h0, ← hIf, hs]
    rw [hj, ← hK] at this
    exact this
  clear hK hIf
  have n0 : ¬ (n : Int) < 0 := by omega
  have n1 : ¬ (8160 : Int) < n := by omega
  go_enter Tryd.func31, Tryd.ntmps31
  go_wp2_with fail
  go_loopw [8, 9, 10] (fun v8 v9 v10 wr => ∃ (i k : Nat) (last all : ByteArray), k = i + 1 ∧ 32 * i < n + 32 ∧ v10 = .int .i64 k ∧ v9 = .string last ∧ v8 = .string all ∧ last.data.toList = expT K I i ∧ all.data.toList = expA K I i ∧ Fr [] w wr) (fun _ _ v _ => 256 - (intOf v).toNat)
  case atStart => exact ⟨0, 1, ⟨#[]⟩, ⟨#[]⟩, rfl, by omega, rfl, rfl, rfl, rfl, rfl, Fr.refl _ _⟩
  case round =>
    obtain ⟨i, k, last, all, hk, hi, rfl, rfl, rfl, hlast, hall, hF⟩ := hrel
    have hals : all.size = 32 * i := by have : all.data.toList.length = all.size := by simp
                                        rw [hall, expA_len] at this; omega
    have hls : last.size ≤ 32 := by
      have h1 : last.data.toList.length = last.size := by simp
      have h2 := expT_le K I i
      rw [hlast] at h1; omega
    by_cases hl : 32 * i < n
    · have l1 : (all.size : Int) < n := by omega
      have wK : IntKind.i64.wrap ((k : Int) + 1) = (k : Int) + 1 := IntWalk.i64_in _ (by omega)
      have wB : IntKind.u8.wrap (k : Int) = bt (UInt8.ofNat k) := ofNat_wrap k (by omega)
      have hcv : (convert 59 9 (.slice (some ⟨wr.heap.size, 0, none⟩) 1 1)).run Tryd.prog (wr.alloc (.cells #[.int .u8 (bt (UInt8.ofNat k))] 5)) = .ok (.string ⟨#[UInt8.ofNat k]⟩) (wr.alloc (.cells #[.int .u8 (bt (UInt8.ofNat k))] 5)) :=
        run_strB (P := Tryd.prog) (d := 9) Tryd.underlying59 Tryd.underlying5 Tryd.underlying9 _ wr.heap.size 0 1 5 [UInt8.ofNat k] [] [] (At.alloc_new wr 5 #[.int .u8 (bt (UInt8.ofNat k))]) rfl 1 rfl
      have cS1 := fun w' h1 h2 => cS i last ⟨#[UInt8.ofNat k]⟩ w' (by rw [hk]) hlast h1 h2
      rw [← hk] at cS1
      obtain ⟨nx, hnx⟩ : ∃ nx : ByteArray, nx = ⟨(expT K I k).toArray⟩ := ⟨_, rfl⟩
      have hnxd : nx.data.toList = expT K I k := by rw [hnx]
      have hnxs : nx.size = 32 := by have : nx.data.toList.length = nx.size := by simp
                                     rw [hnxd, expT_len _ _ _ (by omega)] at this; omega
      rw [← hnx] at cS1
      have hAk : (all ++ nx).data.toList = expA K I k := by rw [ByteArray.data_append, Array.toList_append, hall, hnxd, hk]; rfl
      obtain ⟨sx, hsx⟩ : ∃ sx : ByteArray, sx = ⟨#[UInt8.ofNat k]⟩ := ⟨_, rfl⟩
      have hss : sx.size = 1 := by rw [hsx]; rfl
      rw [← hsx] at hcv cS1
      clear hsx
      generalize UInt8.ofNat k = x at wB hcv
      have HK := Lib.hid (And.intro hk (And.intro hnxd hAk))
      have k1 : ¬ 9223372036854775807 < last.size + info.size := by omega
      have k2 : ¬ 9223372036854775807 < last.size + info.size + sx.size := by omega
      have k3 : ¬ 9223372036854775807 < all.size + nx.size := by omega
      clear hk hnxd hAk hnx hlast hnxs hss hals hall hls
      go_wp2_with (first
        | (go_at_call 41; refine (cS1 _ (hP.keep (hF.trans (Fr.alloc _ _ _))) (hQ.keep (hF.trans (Fr.alloc _ _ _)))).mono ?_; clear cS1; rintro e w3 ⟨rfl, f3⟩; have hF := (hF.trans (Fr.alloc _ _ _)).trans f3)
        | fail)
      refine ⟨⟨k, k + 1, nx, all ++ nx, rfl, by have := HK.out.1; omega, by simp, rfl, rfl, HK.out.2.1, HK.out.2.2, hF⟩, ?_⟩
      have := HK.out.1
      simp only [intOf]; omega
    · have l1 : ¬ (all.size : Int) < n := by omega
      have hin : i = piecesN n := by unfold piecesN; omega
      have hae : all = ⟨(expA K I i).toArray⟩ := by
        apply ByteArray.ext
        apply Array.toList_inj.1
        rw [hall]
      have hex : all.extract 0 n = ⟨(expL K I n).toArray⟩ := by rw [hae, str_take, hin]; rfl
      obtain ⟨R, hRe⟩ : ∃ R : ByteArray, R = ⟨(expL K I n).toArray⟩ := ⟨_, rfl⟩
      rw [← hRe] at hex
      have HRe := Lib.hid hRe
      clear hRe hae
      have l2 : (n : Int) ≤ all.size := by omega
      have l3 : n ≤ all.size := by omega
      clear hin hals hk hl hall hlast
      go_wp2_with fail
      go_ret2
      exact ⟨by rw [← HRe.out]; rfl, hF⟩
end Go.Proofs.YtbpaknnnkmjgjaaDoor
