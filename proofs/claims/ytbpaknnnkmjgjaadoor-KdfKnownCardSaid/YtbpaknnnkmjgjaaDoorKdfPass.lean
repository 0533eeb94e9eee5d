/- PBKDF2 of the program. -/
import Derived.Test.YtbpaknnnkmjgjaaDoorKdfPassP
import Derived.Test.YtbpaknnnkmjgjaaDoorKdfExp
import Derived.Test.YtbpaknnnkmjgjaaDoorUntil
namespace Go.Proofs.YtbpaknnnkmjgjaaDoor
open Go.RowKit Go.Lib Go.Joins Base
set_option linter.unusedVariables false
set_option linter.unusedSimpArgs false

set_option maxRecDepth 100000 in
set_option maxHeartbeats 1000000 in
theorem pass_bad (pass salt : ByteArray) (r n : Int) (h : (r < 1 ∨ 4096 < r) ∨ (n < 0 ∨ 1024 < n)) (w : World) :
    Calls Tryd.prog 32 #[.string pass, .string salt, .int .i64 r, .int .i64 n] w fun e w' => e = .returned (.tuple #[.string ⟨#[]⟩, .int .i64 (if r < 1 ∨ 4096 < r then 30 else 31)]) ∧ Fr [] w w' := by
  by_cases hr : r < 1 ∨ 4096 < r
  · rw [if_pos hr]
    rcases hr with hr | hr
    · go_enter Tryd.func32, Tryd.ntmps32
      go_wp2_with fail
      go_ret2
      exact ⟨rfl, Fr.refl _ _⟩
    · have h0 : ¬ r < 1 := by omega
      go_enter Tryd.func32, Tryd.ntmps32
      go_wp2_with fail
      go_ret2
      exact ⟨rfl, Fr.refl _ _⟩
  · rw [if_neg hr]
    have h0 : ¬ r < 1 := by omega
    have h1 : ¬ 4096 < r := by omega
    rcases (by omega : n < 0 ∨ 1024 < n) with hn | hn
    · clear h hr
      go_enter Tryd.func32, Tryd.ntmps32
      go_wp2_with fail
      go_ret2
      exact ⟨rfl, Fr.refl _ _⟩
    · have h2 : ¬ n < 0 := by omega
      clear h hr
      go_enter Tryd.func32, Tryd.ntmps32
      go_wp2_with fail
      go_ret2
      exact ⟨rfl, Fr.refl _ _⟩

set_option maxRecDepth 100000 in
set_option maxHeartbeats 1000000 in
/-- What the closure does: the cell's text summed, and laid into the cell. -/
theorem next_any (K : List UInt8) (p q : Nat) (last : ByteArray) (hl : last.size ≤ 576460752303423488) (w : World) (hI : First w) (hR : Roots w) (hA : At w p 63 [.string ⟨(innerL K).toArray⟩, .string ⟨(outerL K).toArray⟩]) (hq : At w q 9 [.string last]) :
    Calls Tryd.prog 49 #[.pointer (some ⟨p, 0, none⟩), .pointer (some ⟨q, 0, none⟩)] w fun e w' => e = .returned (.string ⟨(hmacL K last.data.toList).toArray⟩) ∧ At w' q 9 [.string ⟨(hmacL K last.data.toList).toArray⟩] ∧ Fr [q] w w' := by
  have hj : joinL [last] = last.data.toList := by simp [joinL]
  have cS : ∀ g w', First w' → Roots w' → At w' g 9 [.string last] → Calls Tryd.prog 39 #[.agg #[.string ⟨(innerL K).toArray⟩, .string ⟨(outerL K).toArray⟩], .slice (some ⟨g, 0, none⟩) 1 1] w' fun e w'' => e = .returned (.string ⟨(hmacL K last.data.toList).toArray⟩) ∧ Fr [] w' w'' := fun g w' h1 h2 h3 => by
    have := psum_any ⟨(innerL K).toArray⟩ ⟨(outerL K).toArray⟩ [last] (some ⟨g, 0, none⟩) 1 (.inl ⟨_, _, rfl⟩) (by show (innerL K).toArray.size = 64; rw [List.size_toArray, innerL_len]) (by show (outerL K).toArray.size = 64; rw [List.size_toArray, outerL_len]) (by rw [hj]; simpa using hl) (by simp) w' h1 h2 (Texts.ofAt h3)
    rw [hj] at this
    exact this
  generalize (⟨(innerL K).toArray⟩ : ByteArray) = a at cS hA
  generalize (⟨(outerL K).toArray⟩ : ByteArray) = b at cS hA
  generalize (⟨(hmacL K last.data.toList).toArray⟩ : ByteArray) = X at cS ⊢
  have c0 := hA.cell 0
  have c1 := hA.cell 1
  have cq := hq.cell 0
  have f1 : Fr [] w (w.alloc (.cells #[.string last] 9)) := Fr.alloc _ _ _
  go_enter Tryd.func49, Tryd.ntmps49
  go_wp2_with (first
    | (go_at_call 39; refine (cS _ _ (hI.keep f1) (hR.keep f1 (by simp)) (At.alloc_new _ _ _)).mono ?_; rintro e w2 ⟨rfl, f2⟩; have h2 := (f1.trans f2).keep hq (by simp); have cq2 := h2.cell 0; have fz2 := h2.frozen 0)
    | fail)
  go_ret
  have h3 := h2.setCell 0 (.string X)
  have f3 : Fr [q] w2 (w2.setCell ⟨q, 0, none⟩ (.string X)) := Fr.setCell _ _ _ _ (.inl (by simp))
  exact ⟨rfl, h3, ((f1.trans f2).mono (by simp)).trans f3⟩

set_option maxRecDepth 100000 in
set_option maxHeartbeats 4000000 in
theorem pass_any (pass salt : ByteArray) (hp : pass.size ≤ 1152921504606846976) (hs : salt.size ≤ 140737488351232) (rounds n : Nat) (hr1 : 1 ≤ rounds) (hr : rounds ≤ 4096) (hn : n ≤ 1024) (w : World) (hI : First w) (hR : Roots w) :
    Calls Tryd.prog 32 #[.string pass, .string salt, .int .i64 rounds, .int .i64 n] w fun e w' => e = .returned (.tuple #[.string ⟨(pbL pass.data.toList salt.data.toList rounds n).toArray⟩, .int .i64 0]) ∧ Fr [] w w' := by
  have cP := padsOf_any pass hp w hI hR
  obtain ⟨K, hK⟩ : ∃ K, K = pass.data.toList := ⟨_, rfl⟩
  obtain ⟨I, hIf⟩ : ∃ I, I = salt.data.toList := ⟨_, rfl⟩
  have hIl : I.length = salt.size := by rw [hIf]; simp
  rw [← hK] at cP ⊢
  rw [← hIf]
  have cX := next_any K
  obtain ⟨a, ha⟩ : ∃ a : ByteArray, a = ⟨(innerL K).toArray⟩ := ⟨_, rfl⟩
  obtain ⟨b, hb⟩ : ∃ b : ByteArray, b = ⟨(outerL K).toArray⟩ := ⟨_, rfl⟩
  rw [← ha, ← hb] at cP cX
  have HI := Lib.hid (And.intro hIf hIl)
  clear ha hb hK hIf hIl
  have n0 : ¬ (n : Int) < 0 := by omega
  have n1 : ¬ (1024 : Int) < n := by omega
  have n2 : ¬ (rounds : Int) < 1 := by omega
  have n3 : ¬ (4096 : Int) < rounds := by omega
  go_enter Tryd.func32, Tryd.ntmps32
  go_wp2_with (first
    | (go_at_call 38; refine cP.mono ?_; clear cP; rintro e w1 ⟨rfl, f1⟩)
    | fail)
  have hF := f1.trans ((Fr.alloc [] w1 (.cells #[.string a, .string b] 63)).trans (Fr.alloc [] _ (.cells #[.pointer none, .slice none 0 0] 74)))
  have hA := (At.alloc_new w1 63 #[.string a, .string b]).alloc (.cells #[.pointer none, .slice none 0 0] 74)
  have hB := Bld.new (w1.alloc (.cells #[.string a, .string b] 63))
  obtain ⟨B, hBe⟩ : ∃ B, B = w1.heap.size + 1 := ⟨_, rfl⟩
  have hsB : (w1.alloc (.cells #[.string a, .string b] 63)).heap.size = B := by rw [hBe]; simp
  rw [hsB] at hB
  rw [← hBe]
  obtain ⟨p, hpe⟩ : ∃ p, p = w1.heap.size := ⟨_, rfl⟩
  have hpB : p < B := by omega
  have hwp : w.heap.size ≤ p := by have := f1.size; omega
  rw [← hpe] at hA ⊢
  obtain ⟨W, hW⟩ : ∃ W, W = (w1.alloc (.cells #[.string a, .string b] 63)).alloc (.cells #[.pointer none, .slice none 0 0] 74) := ⟨_, rfl⟩
  rw [← hW] at hF hA hB ⊢
  clear hW hsB hBe hpe f1
  go_loopw [12] (fun v12 wr => ∃ (i k : Nat), k = i + 1 ∧ 32 * i < n + 32 ∧ v12 = .int .i64 k ∧ Bld B (pbA K I rounds i) wr ∧ At wr p 63 [.string a, .string b] ∧ Fr [] w wr) (fun v _ => 256 - (intOf v).toNat)
  case atStart => exact ⟨0, 1, rfl, by omega, rfl, hB, hA, hF⟩
  case round =>
    clear hF hA hB
    obtain ⟨i, k, hk, hi, rfl, hB, hA, hF⟩ := hrel
    have cN := bldLen_any B _ wr hB
    rw [pbA_len] at cN
    by_cases hl : 32 * i < n
    · have l1 : ((32 * i : Nat) : Int) < n := by omega
      generalize ((32 * i : Nat) : Int) = z at cN l1
      have wK : IntKind.i64.wrap ((k : Int) + 1) = (k : Int) + 1 := IntWalk.i64_in _ (by omega)
      have wB : IntKind.u8.wrap (k : Int) = bt (UInt8.ofNat k) := ofNat_wrap k (by omega)
      have hcv : (convert 59 9 (.slice (some ⟨wr.heap.size, 0, none⟩) 4 4)).run Tryd.prog (wr.alloc (.cells #[.int .u8 0, .int .u8 0, .int .u8 0, .int .u8 (bt (UInt8.ofNat k))] 5)) = .ok (.string ⟨#[0, 0, 0, UInt8.ofNat k]⟩) (wr.alloc (.cells #[.int .u8 0, .int .u8 0, .int .u8 0, .int .u8 (bt (UInt8.ofNat k))] 5)) :=
        run_strB (P := Tryd.prog) (d := 9) Tryd.underlying59 Tryd.underlying5 Tryd.underlying9 _ wr.heap.size 0 4 5 [0, 0, 0, UInt8.ofNat k] [] [] (At.alloc_new wr 5 #[.int .u8 0, .int .u8 0, .int .u8 0, .int .u8 (bt (UInt8.ofNat k))]) rfl 4 rfl
      obtain ⟨sx, hsx⟩ : ∃ sx : ByteArray, sx = ⟨#[0, 0, 0, UInt8.ofNat k]⟩ := ⟨_, rfl⟩
      have hss : sx.size = 4 := by rw [hsx]; rfl
      have hst : (salt ++ sx).data.toList = pbS I k := by rw [ByteArray.data_append, Array.toList_append, ← HI.out.1, hsx]; rfl
      rw [← hsx] at hcv
      have k1 : ¬ 9223372036854775807 < salt.size + sx.size := by omega
      have hsl : (salt ++ sx).size ≤ 140737488355328 := by rw [ByteArray.size_append]; omega
      clear hsx hss
      generalize UInt8.ofNat k = x at wB hcv
      have HK := Lib.hid hk
      have wk0 : k ≤ 256 := by omega
      clear hk
      go_wp2_with (first
        | (go_at_call 46; refine cN.mono ?_; clear cN; rintro e w2 ⟨rfl, rfl⟩)
        | fail)
      obtain ⟨Z4, hZ4⟩ : ∃ Z4 : Obj, Z4 = .cells #[.int .u8 0, .int .u8 0, .int .u8 0, .int .u8 (bt x)] 5 := ⟨_, rfl⟩
      obtain ⟨Zq, hZq⟩ : ∃ Zq : Obj, Zq = .cells #[.string (salt ++ sx)] 9 := ⟨_, rfl⟩
      obtain ⟨Zf, hZf⟩ : ∃ Zf : Obj, Zf = .cells (byteCells (zerosB 32)).toArray 80 := ⟨_, rfl⟩
      obtain ⟨W3, hW3⟩ : ∃ W3, W3 = ((w2.alloc Z4).alloc Zq).alloc Zf := ⟨_, rfl⟩
      have eW : ((w2.alloc (.cells #[.int .u8 0, .int .u8 0, .int .u8 0, .int .u8 (bt x)] 5)).alloc (.cells #[.string (salt ++ sx)] 9)).alloc (.cells #[.int .u8 0, .int .u8 0, .int .u8 0, .int .u8 0, .int .u8 0, .int .u8 0, .int .u8 0, .int .u8 0, .int .u8 0, .int .u8 0, .int .u8 0, .int .u8 0, .int .u8 0, .int .u8 0, .int .u8 0, .int .u8 0, .int .u8 0, .int .u8 0, .int .u8 0, .int .u8 0, .int .u8 0, .int .u8 0, .int .u8 0, .int .u8 0, .int .u8 0, .int .u8 0, .int .u8 0, .int .u8 0, .int .u8 0, .int .u8 0, .int .u8 0, .int .u8 0] 80) = W3 := by rw [hW3, hZ4, hZq, hZf]; rfl
      rw [eW]
      have f3 : Fr [] w2 W3 := by rw [hW3]; exact ((Fr.alloc _ _ _).trans (Fr.alloc _ _ _)).trans (Fr.alloc _ _ _)
      have hq3 : At W3 (w2.heap.size + 1) 9 [.string (salt ++ sx)] := by rw [hW3, hZq]; exact (At.alloc_new2 w2 Z4 9 #[.string (salt ++ sx)]).alloc _
      have hf3 : At W3 (w2.heap.size + 1 + 1) 80 (byteCells (pbF K (pbS I k) 0)) := by
        rw [hW3, hZf]
        have := At.alloc_new ((w2.alloc Z4).alloc Zq) 80 (byteCells (zerosB 32)).toArray
        simpa [pbF] using this
      clear eW hW3 hZ4 hZq hZf hcv
      obtain ⟨q, hqe⟩ : ∃ q, q = w2.heap.size + 1 := ⟨_, rfl⟩
      rw [← hqe] at hq3 hf3 ⊢
      obtain ⟨s, hse⟩ : ∃ s, s = pbS I k := ⟨_, rfl⟩
      rw [← hse] at hst hf3
      have hsq : w2.heap.size ≤ q := by omega
      have hBlt := hB.lt
      have HQ := Lib.hid (And.intro hse hBlt)
      clear hse hqe hBlt
      go_loopw [47] (fun v47 wr' => ∃ (j : Nat) (last : ByteArray), j ≤ rounds ∧ v47 = .int .i64 j ∧ last.data.toList = pbU K s j ∧ last.size ≤ 140737488355328 ∧ At wr' q 9 [.string last] ∧ At wr' (q + 1) 80 (byteCells (pbF K s j)) ∧ Fr [] w2 wr') (fun v _ => rounds - (intOf v).toNat)
      case atStart => exact ⟨0, _, by omega, rfl, hst, hsl, hq3, hf3, f3⟩
      case round =>
        clear f3 hq3 hf3 hst hsl
        obtain ⟨j, last, hj, rfl, hlast, hls, hq, hf, hF2⟩ := hrel
        by_cases hjl : j < rounds
        · have l3 : (j : Int) < rounds := by omega
          have cX1 := cX p q last (by omega) _ (hI.keep (hF.trans hF2)) (hR.keep (hF.trans hF2) (by simp)) (hF2.keep hA (by simp)) hq
          obtain ⟨nx, hnx⟩ : ∃ nx : ByteArray, nx = ⟨(hmacL K last.data.toList).toArray⟩ := ⟨_, rfl⟩
          have hnxd : nx.data.toList = pbU K s (j + 1) := by rw [hnx, hlast]; rfl
          have hnxs : nx.size = 32 := by have : nx.data.toList.length = nx.size := by simp
                                         rw [hnxd, pbU_len] at this; omega
          rw [← hnx] at cX1
          have HJ := Lib.hid (And.intro hj hjl)
          have HD := Lib.hid (And.intro hnxd hnxs)
          clear hnx hlast hls hjl hj hnxd hnxs
          go_wp2_with (first
            | (go_at_call 49; refine cX1.mono ?_; clear cX1; rintro e w4 ⟨rfl, hq4, f4⟩; have hf4 := f4.keep hf (by simp); have hF4 := hF2.new f4 (by simp; exact hsq))
            | fail)
          obtain ⟨hnxd, hnxs⟩ := HD.out
          have hFl := pbF_len K s j
          have hUl := pbU_len K s j
          have hstep : pbF K s (j + 1) = xorL (pbF K s j) (pbU K s (j + 1)) := rfl
          rw [← mixTo_zero (pbF K s j) (pbU K s (j + 1))] at hf4
          obtain ⟨F, hFe⟩ : ∃ F, F = pbF K s j := ⟨_, rfl⟩
          obtain ⟨U, hUe⟩ : ∃ U, U = pbU K s (j + 1) := ⟨_, rfl⟩
          rw [← hFe, ← hUe] at hstep hf4
          rw [← hFe] at hFl
          rw [← hUe] at hUl hnxd
          have HE := Lib.hid (And.intro hstep (And.intro hFl (And.intro hUl (And.intro hnxd (And.intro hnxs hUe)))))
          clear hstep hFl hUl hnxd hnxs hFe hUe hq hf hF2
          go_loopw [51] (fun v51 wr'' => ∃ (m : Nat), m ≤ 32 ∧ v51 = .int .i64 m ∧ At wr'' q 9 [.string nx] ∧ At wr'' (q + 1) 80 (byteCells (mixTo F U m)) ∧ Fr [] w2 wr'') (fun v _ => 32 - (intOf v).toNat)
          case atStart => exact ⟨0, by omega, rfl, hq4, hf4, hF4⟩
          case round =>
            clear hq4 hf4 hF4
            obtain ⟨m, hm, rfl, hq, hf, hF2⟩ := hrel
            by_cases hml : m < 32
            · have l4 : (m : Int) < 32 := by omega
              obtain ⟨x1, hx1⟩ : ∃ x1, x1 = F.getD m 0 := ⟨_, rfl⟩
              obtain ⟨u1, hu1⟩ : ∃ u1, u1 = U.getD m 0 := ⟨_, rfl⟩
              have hFl := HE.out.2.1
              have hUl := HE.out.2.2.1
              have c := hf.cell m
              rw [byteCells_get _ _ (by rw [mixTo_len _ _ _ (by omega) (by omega)]; omega), mixTo_get _ _ _ (by omega) (by omega), ← hx1] at c
              have fz := hf.frozen m
              have hns : m < nx.size := by have := HE.out.2.2.2.2.1; omega
              have gx : nx[m] = u1 := bget _ (by have hp0 : m < nx.data.size := hns; rw [hu1, ← HE.out.2.2.2.1, List.getD, Array.getElem?_toList, Array.getElem?_eq_getElem hp0]; rfl)
              have x3 : ∀ t, binOp .xor t (.int .u8 (bt x1)) (.int .u8 (u1.toNat : Int)) = pure (.int .u8 (bt (x1 ^^^ u1))) := fun t => binOp_xor8 t x1 u1
              have hset : (byteCells (mixTo F U m)).set m (.int .u8 (bt (x1 ^^^ u1))) = byteCells (mixTo F U (m + 1)) := by
                rw [byteCells_set, hx1, hu1, mixTo_set _ _ _ (by omega) (by omega)]
              have HS := Lib.hid hset
              clear hset hx1 hu1 hFl hUl
              go_wp2_with fail
              refine wp_region_until (fun _ => True) (fun w' => w'.cell? ⟨q + 1, m, none⟩ = some (.int .u8 (bt x1))) 8 (by rfl) ?_
              have hT : True := trivial
              have s1 : wr.drew.cell? ⟨q + 1, m, none⟩ = some (.int .u8 (bt x1)) := c
              have s1' := fun (_ : (false = false)) => s1
              refine until_s0 0 (v := ?_) rfl (by kernel_rfl) (fun _ _ _ h => h) (Or.inl ⟨by rfl, ?_⟩) (by assumption) (fun h => by first | assumption | exact absurd (h : true = false) (by decide)) ?_
              rotate_left
              · intro w hSw; (try dsimp only at hSw); (try go_simp); (try with_reducible rfl)
              try simp only [Act.put, List.setIfInBounds_toArray, List.set_cons_zero, List.set_cons_succ]
              refine until_s0 1 (v := ?_) rfl (by kernel_rfl) (fun _ _ _ h => h) (Or.inl ⟨by rfl, ?_⟩) (by assumption) (fun h => by first | assumption | exact absurd (h : true = false) (by decide)) ?_
              rotate_left
              · intro w hSw; (try dsimp only at hSw); (try go_simp); (try with_reducible rfl)
              try simp only [Act.put, List.setIfInBounds_toArray, List.set_cons_zero, List.set_cons_succ]
              refine until_s1 2 (v := ?_) rfl (by kernel_rfl) (fun _ _ _ h => h) (Or.inl ⟨by rfl, ?_⟩) (by assumption) (fun h => by first | assumption | exact absurd (h : true = false) (by decide)) ?_
              rotate_left
              · intro w hSw; (try dsimp only at hSw); (try go_simp); (try with_reducible rfl)
              try simp only [Act.put, List.setIfInBounds_toArray, List.set_cons_zero, List.set_cons_succ]
              refine until_s0 3 (v := ?_) rfl (by kernel_rfl) (fun _ _ _ h => h) (Or.inl ⟨by rfl, ?_⟩) (by assumption) (fun h => by first | assumption | exact absurd (h : true = false) (by decide)) ?_
              rotate_left
              · intro w hSw; (try dsimp only at hSw); (try go_simp); (try with_reducible rfl)
              try simp only [Act.put, List.setIfInBounds_toArray, List.set_cons_zero, List.set_cons_succ]
              refine until_s0 4 (v := ?_) rfl (by kernel_rfl) (fun _ _ _ h => h) (Or.inl ⟨by rfl, ?_⟩) (by assumption) (fun h => by first | assumption | exact absurd (h : true = false) (by decide)) ?_
              rotate_left
              · intro w hSw; (try dsimp only at hSw); (try go_simp); (try with_reducible rfl)
              try simp only [Act.put, List.setIfInBounds_toArray, List.set_cons_zero, List.set_cons_succ]
              refine until_s0 5 (v := ?_) rfl (by kernel_rfl) (fun _ _ _ h => h) (Or.inl ⟨by rfl, ?_⟩) (by assumption) (fun h => by first | assumption | exact absurd (h : true = false) (by decide)) ?_
              rotate_left
              · intro w hSw; (try dsimp only at hSw); (try go_simp); (try with_reducible rfl)
              try simp only [Act.put, List.setIfInBounds_toArray, List.set_cons_zero, List.set_cons_succ]
              refine until_s0 6 (v := ?_) rfl (by kernel_rfl) (fun _ _ _ h => h) (Or.inl ⟨by rfl, ?_⟩) (by assumption) (fun h => by first | assumption | exact absurd (h : true = false) (by decide)) ?_
              rotate_left
              · intro w hSw; (try dsimp only at hSw); (try go_simp); (try with_reducible rfl)
              try simp only [Act.put, List.setIfInBounds_toArray, List.set_cons_zero, List.set_cons_succ]
              refine until_s0 7 (v := ?_) rfl (by kernel_rfl) (fun _ _ _ h => h) (Or.inl ⟨by rfl, ?_⟩) (by assumption) (fun h => by first | assumption | exact absurd (h : true = false) (by decide)) ?_
              rotate_left
              · intro w hSw; (try dsimp only at hSw); (try go_simp); (try with_reducible rfl)
              try simp only [Act.put, List.setIfInBounds_toArray, List.set_cons_zero, List.set_cons_succ]
              refine until_sole 8 rfl (by kernel_rfl) (by rfl) ?_
              intro K' hK
              go_simp
              refine hK _ _ trivial (fun h => absurd h (by decide)) ?_
              clear hK
              refine until_done (by kernel_rfl) ?_ _
              go_wp2_with fail
              have f5 : Fr [q + 1] wr (wr.setCell ⟨q + 1, m, none⟩ (.int .u8 (bt (x1 ^^^ u1)))).drew := (Fr.setCell [q + 1] wr ⟨q + 1, m, none⟩ _ (.inl (by simp))).trans (Fr.drew _ _)
              refine ⟨⟨m + 1, by omega, by simp, f5.keep hq (by simp), ?_, hF2.new f5 (by simp; omega)⟩, by simp only [intOf]; omega⟩
              rw [← HS.out]
              exact hf.setCell m _
            · obtain rfl : m = 32 := by omega
              have hFl := HE.out.2.1
              have hUl := HE.out.2.2.1
              have hall := mixTo_all F U (by omega)
              rw [hFl] at hall
              rw [hall, ← HE.out.1] at hf
              clear hall hFl hUl
              go_wp2_with fail
              have hls := HE.out.2.2.2.2.1
              refine ⟨⟨j + 1, nx, by have := HJ.out.2; omega, by simp, by rw [HE.out.2.2.2.1, HE.out.2.2.2.2.2], by omega, hq, hf, hF2⟩, ?_⟩
              have := HJ.out.2
              simp only [intOf]; omega
        · obtain rfl : j = rounds := by omega
          have hBw := hB.fr hF2 (by simp)
          have hFl := pbF_len K s j
          have cW := bldWrite_any B (pbA K I j i) (pbF K s j) (q + 1) 32 80 _ hBw hf (by have := HQ.out.2; omega) (by rw [pbA_len, hFl]; omega)
          have hAk : pbA K I j i ++ pbF K s j = pbA K I j k := by rw [HQ.out.1, HK.out]; rfl
          rw [hAk, hFl] at cW
          clear hAk hFl hlast hls hj hjl
          have hA2 := hF2.keep hA (by simp)
          have hF4 := hF.trans hF2
          go_wp2_with (first
            | (go_at_call 50; refine cW.mono ?_; clear cW; rintro e w4 ⟨rfl, hB4, b4⟩)
            | fail)
          refine ⟨⟨k, k + 1, rfl, by have := HK.out; omega, by simp, hB4, (b4.block p hpB).trans hA2, Fr.ofBelow (hF4.below.trans (b4.mono (by omega)))⟩, ?_⟩
          have := HK.out
          simp only [intOf]; omega
    · have l1 : ¬ ((32 * i : Nat) : Int) < n := by omega
      have hin : i = piecesN n := by unfold piecesN; omega
      have cT := fun w' h => bldString_any B (pbA K I rounds i) w' h
      have hsz : (⟨(pbA K I rounds i).toArray⟩ : ByteArray).size = 32 * i := by show (pbA K I rounds i).toArray.size = _; rw [List.size_toArray, pbA_len]
      have hex : (⟨(pbA K I rounds i).toArray⟩ : ByteArray).extract 0 n = ⟨(pbL K I rounds n).toArray⟩ := by rw [str_take, hin]; rfl
      generalize (⟨(pbA K I rounds i).toArray⟩ : ByteArray) = S at cT hsz hex
      obtain ⟨R, hRe⟩ : ∃ R : ByteArray, R = ⟨(pbL K I rounds n).toArray⟩ := ⟨_, rfl⟩
      rw [← hRe] at hex
      have HRe := Lib.hid hRe
      clear hRe
      have l2 : (n : Int) ≤ S.size := by omega
      have l3 : n ≤ S.size := by omega
      generalize ((32 * i : Nat) : Int) = z at cN l1
      clear hin hsz hk hl
      go_wp2_with (first
        | (go_at_call 46; refine cN.mono ?_; clear cN; rintro e w2 ⟨rfl, rfl⟩)
        | (go_at_call 48; refine (cT _ hB).mono ?_; clear cT; rintro e w5 ⟨rfl, b5⟩)
        | fail)
      go_ret2
      exact ⟨by rw [← HRe.out]; rfl, Fr.ofBelow (hF.below.trans (b5.mono (by omega)))⟩
end Go.Proofs.YtbpaknnnkmjgjaaDoor
