/- PBKDF2 of the document. -/
import Derived.Test.YtbpaknnnkmjgjaaDoorKdfPassP
import Derived.Test.YtbpaknnnkmjgjaaDoorRef3
import Derived.Test.YtbpaknnnkmjgjaaDoorUntil
namespace Go.Proofs.YtbpaknnnkmjgjaaDoor
open Go.RowKit Go.Lib Go.Joins Base
set_option linter.unusedVariables false
set_option linter.unusedSimpArgs false

set_option maxRecDepth 100000 in
set_option maxHeartbeats 1000000 in
theorem rxored_any (a b : ByteArray) (h : a.size = b.size) (ha : a.size ≤ 1048576) (w : World) :
    Calls Tryd.prog 51 #[.string a, .string b] w fun e w' => e = .returned (.string ⟨(xorL a.data.toList b.data.toList).toArray⟩) ∧ Fr [] w w' := by
  have hi5 : (Tryd.prog.info? 5).map (fun i => (i.zero, i.size, i.bytes)) = some (some (.int .u8 0), 1, 1) := by kernel_rfl
  obtain ⟨iI, hiI, hz0, hz1, hz2⟩ := info_parts hi5
  have hal : a.data.toList.length = a.size := by simp
  have hbl : b.data.toList.length = b.size := by simp
  obtain ⟨X, hX⟩ : ∃ X, X = xorL a.data.toList b.data.toList := ⟨_, rfl⟩
  have hXl : X.length = a.size := by rw [hX, xorL_len _ _ (by omega), hal]
  have hXg : ∀ i, i < a.size → X.getD i 0 = a.data.toList.getD i 0 ^^^ b.data.toList.getD i 0 := fun i hi => by rw [hX]; exact xorL_get _ _ i (by omega) (by omega)
  have HX := Lib.hid (And.intro hX hXg)
  clear hX hXg hal hbl
  go_enter Tryd.func51, Tryd.ntmps51
  go_wp2_with fail
  go_loopw [5, 6] (fun v5 v6 wr => ∃ i : Nat, i ≤ a.size ∧ v6 = .int .i64 i ∧ wr.ownsRow w.heap.size 5 1 v5 i (byteCells (X.take i)) ∧ Below w.heap.size w wr) (fun _ v _ => a.size - (intOf v).toNat)
  case atStart => exact ⟨0, by omega, rfl, World.ownsRow_nil _ _ _ _, Below.refl _ _⟩
  case round =>
    obtain ⟨i, hi, rfl, h0, hB⟩ := hrel
    have hsz := hB.size
    by_cases hl : i < a.size
    · have l1 : (i : Int) < a.size := by omega
      have hl2 : i < b.size := by omega
      obtain ⟨y, hy⟩ : ∃ y, y = X.getD i 0 := ⟨_, rfl⟩
      have HT : Hid (X.take (i + 1) = X.take i ++ [y]) := Lib.hid (by rw [List.take_add_one, List.getElem?_eq_getElem (by omega), hy]; simp [List.getD, show i < X.length by omega])
      obtain ⟨x1, hx1⟩ : ∃ x, x = a.data.toList.getD i 0 := ⟨_, rfl⟩
      have g1 : a[i] = x1 := bget _ (by have hp0 : i < a.data.size := hl; rw [hx1, List.getD, Array.getElem?_toList, Array.getElem?_eq_getElem hp0]; rfl)
      obtain ⟨x2, hx2⟩ : ∃ x, x = b.data.toList.getD i 0 := ⟨_, rfl⟩
      have g2 : b[i] = x2 := bget _ (by have hp0 : i < b.data.size := hl2; rw [hx2, List.getD, Array.getElem?_toList, Array.getElem?_eq_getElem hp0]; rfl)
      have x3 : ∀ t, binOp .xor t (.int .u8 (x1.toNat : Int)) (.int .u8 (x2.toNat : Int)) = pure (.int .u8 (bt y)) := fun t => by rw [hy, HX.out.2 i hl, ← hx1, ← hx2]; exact binOp_xor8 t x1 x2
      have A2 := At.alloc_new wr.drew 5 #[Value.int .u8 (bt y)]
      clear hx1 hx2 hy h
      go_wp2_with fail
      refine wp_region_until (fun _ => True) (fun _ => True) 1000 (by rfl) ?_
      have hT : True := trivial
      refine until_s0 0 (v := ?_) rfl (by kernel_rfl) (fun _ _ _ h => h) (Or.inl ⟨by rfl, ?_⟩) (by assumption) (fun h => by first | assumption | exact absurd (h : true = false) (by decide)) ?_
      rotate_left
      · intro w hSw; (try dsimp only at hSw); (try go_simp); (try with_reducible rfl)
      try simp only [Act.put, List.setIfInBounds_toArray, List.set_cons_zero, List.set_cons_succ]
      refine until_s0 1 (v := ?_) rfl (by kernel_rfl) (fun _ _ _ h => h) (Or.inl ⟨by rfl, ?_⟩) (by assumption) (fun h => by first | assumption | exact absurd (h : true = false) (by decide)) ?_
      rotate_left
      · intro w hSw; (try dsimp only at hSw); (try go_simp); (try with_reducible rfl)
      try simp only [Act.put, List.setIfInBounds_toArray, List.set_cons_zero, List.set_cons_succ]
      refine until_s0 2 (v := ?_) rfl (by kernel_rfl) (fun _ _ _ h => h) (Or.inl ⟨by rfl, ?_⟩) (by assumption) (fun h => by first | assumption | exact absurd (h : true = false) (by decide)) ?_
      rotate_left
      · intro w hSw; (try dsimp only at hSw); (try go_simp); (try with_reducible rfl)
      try simp only [Act.put, List.setIfInBounds_toArray, List.set_cons_zero, List.set_cons_succ]
      refine until_s0 3 (v := ?_) rfl (by kernel_rfl) (fun _ _ _ h => h) (Or.inl ⟨by rfl, ?_⟩) (by assumption) (fun h => by first | assumption | exact absurd (h : true = false) (by decide)) ?_
      rotate_left
      · intro w hSw; (try dsimp only at hSw); (try go_simp); (try with_reducible rfl)
      try simp only [Act.put, List.setIfInBounds_toArray, List.set_cons_zero, List.set_cons_succ]
      refine until_s0 4 (v := ?_) rfl (by kernel_rfl) (fun _ _ _ h => h) (Or.inl ⟨by rfl, ?_⟩) (by assumption) (fun h => by first | assumption | exact absurd (h : true = false) (by decide)) ?_
      rotate_left
      · intro w hSw; (try dsimp only at hSw); (try go_simp); (try with_reducible rfl)
      try simp only [Act.put, List.setIfInBounds_toArray, List.set_cons_zero, List.set_cons_succ]
      refine until_s0 5 (v := ?_) rfl (by kernel_rfl) (fun _ _ _ h => h) (Or.inl ⟨by rfl, ?_⟩) (by assumption) (fun h => by first | assumption | exact absurd (h : true = false) (by decide)) ?_
      rotate_left
      · intro w hSw; (try dsimp only at hSw); (try go_simp); (try with_reducible rfl)
      try simp only [Act.put, List.setIfInBounds_toArray, List.set_cons_zero, List.set_cons_succ]
      refine until_s0 6 (v := ?_) rfl (by kernel_rfl) (fun _ _ _ h => h) (Or.inl ⟨by rfl, ?_⟩) (by assumption) (fun h => by first | assumption | exact absurd (h : true = false) (by decide)) ?_
      rotate_left
      · intro w hSw; (try dsimp only at hSw); (try go_simp); (try with_reducible rfl)
      try simp only [Act.put, List.setIfInBounds_toArray, List.set_cons_zero, List.set_cons_succ]
      refine until_s0 7 (v := ?_) rfl (by kernel_rfl) (fun _ _ _ h => h) (Or.inl ⟨by rfl, ?_⟩) (by assumption) (fun h => by first | assumption | exact absurd (h : true = false) (by decide)) ?_
      rotate_left
      · intro w hSw; (try dsimp only at hSw); (try go_simp); (try with_reducible rfl)
      try simp only [Act.put, List.setIfInBounds_toArray, List.set_cons_zero, List.set_cons_succ]
      refine until_sole 8 rfl (by kernel_rfl) (by rfl) ?_
      intro K' hK
      go_simp
      refine hK _ _ trivial (fun _ => trivial) ?_
      clear hK
      skip
      refine until_sole 9 rfl (by kernel_rfl) (by rfl) ?_
      intro K' hK
      refine wp_append_own _ _ _ _ rfl w.heap.size 5 iI (.int .u8 0) 1 1 Tryd.underlying59 hiI hz0 hz1 hz2 rfl (by decide) _ i _ rfl (World.ownsRow.alloc (World.ownsRow.drew h0) _) ⟨wr.heap.size, 0, none⟩ 1 1 (byteCells [y]) rfl rfl ?_ ?_ ?_ ?_ ?_ ?_
      case refine_1 => intro j u hj; rw [addr_add', Nat.zero_add]; exact (A2.cell j).trans hj
      case refine_2 => exact byteCells_one _
      case refine_3 => simp [maxLen]; omega
      case refine_4 => omega
      case refine_5 => simp; omega
      intro v' w' hown hgr _
      refine hK _ _ trivial (fun _ => trivial) ?_
      clear hK
      refine until_s0 10 (v := ?_) rfl (by kernel_rfl) (fun _ _ _ h => h) (Or.inl ⟨by rfl, ?_⟩) (by assumption) (fun h => by first | assumption | exact absurd (h : true = false) (by decide)) ?_
      rotate_left
      · intro w hSw; (try dsimp only at hSw); (try go_simp); (try with_reducible rfl)
      try simp only [Act.put, List.setIfInBounds_toArray, List.set_cons_zero, List.set_cons_succ]
      refine until_done (by kernel_rfl) ?_ _
      go_wp2_with fail
      refine ⟨⟨i + 1, by omega, by simp, by rw [HT.out]; simpa [byteCells] using hown, (hB.drew.alloc (by show w.heap.size ≤ wr.heap.size; omega) _).grown hgr (by simp; omega) (fun x hx => (h0.lt x hx).1)⟩, by simp only [intOf]; omega⟩
    · obtain rfl : i = a.size := by omega
      rw [List.take_of_length_le (by omega)] at h0
      have hcv := run_strOwn Tryd.underlying59 Tryd.underlying5 Tryd.underlying9 h0
      go_wp2_with fail
      go_ret
      exact ⟨by rw [← HX.out.1]; rfl, Fr.ofBelow hB⟩

set_option maxRecDepth 100000 in
set_option maxHeartbeats 1000000 in
theorem rpass_bad (pass salt : ByteArray) (r n : Int) (h : (r < 1 ∨ 4096 < r) ∨ (n < 0 ∨ 1024 < n)) (w : World) :
    Calls Tryd.prog 33 #[.string pass, .string salt, .int .i64 r, .int .i64 n] w fun e w' => e = .returned (.tuple #[.string ⟨#[]⟩, .int .i64 (if r < 1 ∨ 4096 < r then 30 else 31)]) ∧ Fr [] w w' := by
  by_cases hr : r < 1 ∨ 4096 < r
  · rw [if_pos hr]
    rcases hr with hr | hr
    · go_enter Tryd.func33, Tryd.ntmps33
      go_wp2_with fail
      go_ret2
      exact ⟨rfl, Fr.refl _ _⟩
    · have h0 : ¬ r < 1 := by omega
      go_enter Tryd.func33, Tryd.ntmps33
      go_wp2_with fail
      go_ret2
      exact ⟨rfl, Fr.refl _ _⟩
  · rw [if_neg hr]
    have h0 : ¬ r < 1 := by omega
    have h1 : ¬ 4096 < r := by omega
    rcases (by omega : n < 0 ∨ 1024 < n) with hn | hn
    · clear h hr
      go_enter Tryd.func33, Tryd.ntmps33
      go_wp2_with fail
      go_ret2
      exact ⟨rfl, Fr.refl _ _⟩
    · have h2 : ¬ n < 0 := by omega
      clear h hr
      go_enter Tryd.func33, Tryd.ntmps33
      go_wp2_with fail
      go_ret2
      exact ⟨rfl, Fr.refl _ _⟩

set_option maxRecDepth 100000 in
set_option maxHeartbeats 4000000 in
theorem rpass_any (pass salt : ByteArray) (hp : pass.size ≤ 140737488355328) (hs : salt.size ≤ 140737488351232) (rounds n : Nat) (hr1 : 1 ≤ rounds) (hr : rounds ≤ 4096) (hn : n ≤ 1024) (w : World) (hP : Powers w) (hQ : RefRoots w) :
    Calls Tryd.prog 33 #[.string pass, .string salt, .int .i64 rounds, .int .i64 n] w fun e w' => e = .returned (.tuple #[.string ⟨(pbL pass.data.toList salt.data.toList rounds n).toArray⟩, .int .i64 0]) ∧ Fr [] w w' := by
  obtain ⟨K, hK⟩ : ∃ K, K = pass.data.toList := ⟨_, rfl⟩
  obtain ⟨I, hIf⟩ : ∃ I, I = salt.data.toList := ⟨_, rfl⟩
  rw [← hK, ← hIf]
  have cK : ∀ (t : ByteArray) (w' : World), t.size ≤ 140737488355264 → Powers w' → RefRoots w' → Calls Tryd.prog 41 #[.string pass, .string t] w' fun e w'' => e = .returned (.string ⟨(hmacL K t.data.toList).toArray⟩) ∧ Fr [] w' w'' := fun t w' h h1 h2 => by
    rw [hK]; exact rkeyed_any pass t hp h w' h1 h2
  have HI := Lib.hid hIf
  clear hK hIf
  have n0 : ¬ (n : Int) < 0 := by omega
  have n1 : ¬ (1024 : Int) < n := by omega
  have n2 : ¬ (rounds : Int) < 1 := by omega
  have n3 : ¬ (4096 : Int) < rounds := by omega
  go_enter Tryd.func33, Tryd.ntmps33
  go_wp2_with fail
  go_loopw [10, 11] (fun v10 v11 wr => ∃ (i k : Nat) (all : ByteArray), k = i + 1 ∧ 32 * i < n + 32 ∧ v11 = .int .i64 k ∧ v10 = .string all ∧ all.data.toList = pbA K I rounds i ∧ Fr [] w wr) (fun _ v _ => 256 - (intOf v).toNat)
  case atStart => exact ⟨0, 1, ⟨#[]⟩, rfl, by omega, rfl, rfl, rfl, Fr.refl _ _⟩
  case round =>
    obtain ⟨i, k, all, hk, hi, rfl, rfl, hall, hF⟩ := hrel
    have hals : all.size = 32 * i := by have : all.data.toList.length = all.size := by simp
                                        rw [hall, pbA_len] at this; omega
    by_cases hl : 32 * i < n
    · have l1 : (all.size : Int) < n := by omega
      have wK : IntKind.i64.wrap ((k : Int) + 1) = (k : Int) + 1 := IntWalk.i64_in _ (by omega)
      have wB : IntKind.u8.wrap (k : Int) = bt (UInt8.ofNat k) := ofNat_wrap k (by omega)
      have hcv : (convert 59 9 (.slice (some ⟨wr.heap.size, 0, none⟩) 4 4)).run Tryd.prog (wr.alloc (.cells #[.int .u8 0, .int .u8 0, .int .u8 0, .int .u8 (bt (UInt8.ofNat k))] 5)) = .ok (.string ⟨#[0, 0, 0, UInt8.ofNat k]⟩) (wr.alloc (.cells #[.int .u8 0, .int .u8 0, .int .u8 0, .int .u8 (bt (UInt8.ofNat k))] 5)) :=
        run_strB (P := Tryd.prog) (d := 9) Tryd.underlying59 Tryd.underlying5 Tryd.underlying9 _ wr.heap.size 0 4 5 [0, 0, 0, UInt8.ofNat k] [] [] (At.alloc_new wr 5 #[.int .u8 0, .int .u8 0, .int .u8 0, .int .u8 (bt (UInt8.ofNat k))]) rfl 4 rfl
      obtain ⟨sx, hsx⟩ : ∃ sx : ByteArray, sx = ⟨#[0, 0, 0, UInt8.ofNat k]⟩ := ⟨_, rfl⟩
      have hss : sx.size = 4 := by rw [hsx]; rfl
      have hst : (salt ++ sx).data.toList = pbS I k := by rw [ByteArray.data_append, Array.toList_append, ← HI.out, hsx]; rfl
      rw [← hsx] at hcv
      have k1 : ¬ 9223372036854775807 < salt.size + sx.size := by omega
      have hsl : (salt ++ sx).size ≤ 140737488355264 := by rw [ByteArray.size_append]; omega
      have c1 := fun w' h1 h2 => cK (salt ++ sx) w' hsl h1 h2
      obtain ⟨s, hse⟩ : ∃ s, s = pbS I k := ⟨_, rfl⟩
      rw [hst, ← hse] at c1
      obtain ⟨u1, hu1⟩ : ∃ u1 : ByteArray, u1 = ⟨(hmacL K s).toArray⟩ := ⟨_, rfl⟩
      have hu1d : u1.data.toList = pbU K s 1 := by rw [hu1]; rfl
      rw [← hu1] at c1
      have HK := Lib.hid (And.intro hk (And.intro hse (And.intro hall hals)))
      have wk0 : k ≤ 32 := by omega
      clear hsx hss hst hsl hse hk hu1 hall hals
      generalize UInt8.ofNat k = x at wB hcv
      have hu1f := pbF_one K s
      rw [← hu1d] at hu1f
      have HU := Lib.hid (And.intro hu1d hu1f)
      clear hu1d hu1f
      go_wp2_with (first
        | (go_at_call 41; refine (c1 _ (hP.keep (hF.trans (Fr.alloc _ _ _))) (hQ.keep (hF.trans (Fr.alloc _ _ _)))).mono ?_; clear c1; rintro e w3 ⟨rfl, f3⟩; have hF := (hF.trans (Fr.alloc _ _ _)).trans f3)
        | fail)
      clear f3 hcv
      go_loopw [12, 13, 14] (fun v12 v13 v14 wr' => ∃ (r : Nat) (u f : ByteArray), 1 ≤ r ∧ r ≤ rounds ∧ v14 = .int .i64 r ∧ v12 = .string u ∧ u.data.toList = pbU K s r ∧ v13 = .string f ∧ f.data.toList = pbF K s r ∧ Fr [] w wr') (fun _ _ v _ => rounds - (intOf v).toNat)
      case atStart => exact ⟨1, u1, u1, by omega, hr1, rfl, rfl, HU.out.1, rfl, HU.out.2.symm, hF⟩
      case round =>
        clear hF
        obtain ⟨r, u, f, hr0, hrr, rfl, rfl, hu, rfl, hf, hF⟩ := hrel
        have hfs : f.size = 32 := by have : f.data.toList.length = f.size := by simp
                                     rw [hf, pbF_len] at this; omega
        by_cases hrl : r < rounds
        · have l3 : (r : Int) < rounds := by omega
          have hus : u.size = 32 := by
            have h1 : u.data.toList.length = u.size := by simp
            obtain ⟨r', rfl⟩ : ∃ r', r = r' + 1 := ⟨r - 1, by omega⟩
            rw [hu, pbU_len] at h1; omega
          have c2 := fun w' h1 h2 => cK u w' (by omega) h1 h2
          obtain ⟨u2, hu2⟩ : ∃ u2 : ByteArray, u2 = ⟨(hmacL K u.data.toList).toArray⟩ := ⟨_, rfl⟩
          have hu2d : u2.data.toList = pbU K s (r + 1) := by rw [hu2, hu]; rfl
          have hu2s : u2.size = 32 := by have : u2.data.toList.length = u2.size := by simp
                                         rw [hu2d, pbU_len] at this; omega
          rw [← hu2] at c2
          have c3 := rxored_any f u2 (by omega) (by omega)
          obtain ⟨f2, hf2⟩ : ∃ f2 : ByteArray, f2 = ⟨(xorL f.data.toList u2.data.toList).toArray⟩ := ⟨_, rfl⟩
          have hf2d : f2.data.toList = pbF K s (r + 1) := by rw [hf2, hf, hu2d]; rfl
          rw [← hf2] at c3
          have HR := Lib.hid (And.intro hu2d hf2d)
          clear hu2 hu2d hu2s hf2 hf2d hus hfs hu hf
          go_wp2_with (first
            | (go_at_call 41; refine (c2 _ (hP.keep hF) (hQ.keep hF)).mono ?_; clear c2; rintro e w4 ⟨rfl, f4⟩; have hF := hF.trans f4)
            | (go_at_call 51; refine (c3 _).mono ?_; clear c3; rintro e w5 ⟨rfl, f5⟩; have hF := hF.trans f5)
            | fail)
          refine ⟨⟨r + 1, u2, f2, by omega, by omega, by simp, rfl, HR.out.1, rfl, HR.out.2, hF⟩, by simp only [intOf]; omega⟩
        · obtain rfl : r = rounds := by omega
          obtain ⟨hk, hse, hall, hals⟩ := HK.out
          have k3 : ¬ 9223372036854775807 < all.size + f.size := by omega
          have hAk : (all ++ f).data.toList = pbA K I r k := by rw [ByteArray.data_append, Array.toList_append, hall, hf, hk, hse, hk]; rfl
          have HA := Lib.hid hAk
          clear hAk hk hse hall hals hfs hf hu
          go_wp2_with fail
          have hk := HK.out.1
          refine ⟨⟨k, k + 1, all ++ f, rfl, by omega, by simp, rfl, HA.out, hF⟩, by simp only [intOf]; omega⟩
    · have l1 : ¬ (all.size : Int) < n := by omega
      have hin : i = piecesN n := by unfold piecesN; omega
      have hae : all = ⟨(pbA K I rounds i).toArray⟩ := by
        apply ByteArray.ext
        apply Array.toList_inj.1
        rw [hall]
      have hex : all.extract 0 n = ⟨(pbL K I rounds n).toArray⟩ := by rw [hae, str_take, hin]; rfl
      obtain ⟨R, hRe⟩ : ∃ R : ByteArray, R = ⟨(pbL K I rounds n).toArray⟩ := ⟨_, rfl⟩
      rw [← hRe] at hex
      have HRe := Lib.hid hRe
      clear hRe hae
      have l2 : (n : Int) ≤ all.size := by omega
      have l3 : n ≤ all.size := by omega
      clear hin hals hk hl hall
      go_wp2_with fail
      go_ret2
      exact ⟨by rw [← HRe.out]; rfl, hF⟩
end Go.Proofs.YtbpaknnnkmjgjaaDoor
