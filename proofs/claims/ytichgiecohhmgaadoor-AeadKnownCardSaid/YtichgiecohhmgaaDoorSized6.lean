/- The law's small functions: numbers within limits, texts of a given length, the xor of two texts. casketlaw6 is the law's package. -/
import Derived.Test.YtichgiecohhmgaaDoorOwnB
import Derived.Test.YtichgiecohhmgaaDoorUntil
import Derived.Test.YtichgiecohhmgaaDoorProg
namespace Go.Proofs.YtichgiecohhmgaaDoor
open Go.RowKit Go.Lib Go.Joins Base
set_option linter.unusedVariables false
set_option linter.unusedSimpArgs false

def sizedL (s : List UInt8) (n : Nat) : List UInt8 := (s ++ zerosB (n - s.length)).take n
theorem sizedL_len (s : List UInt8) (n : Nat) : (sizedL s n).length = n := by simp [sizedL, zerosB]; omega
def szLen : Value → Nat
  | .slice _ n _ => n
  | _ => 0
theorem take_len_sz {α : Type} (l : List α) (n : Nat) (h : l.length = n) : l.take n = l := List.take_of_length_le (by omega)

set_option maxRecDepth 100000 in
set_option maxHeartbeats 1000000 in
theorem sized_any (s : ByteArray) (n : Nat) (hs : s.size ≤ 140737488351232) (hn : n ≤ 2097152) (w : World) :
    Calls Tryd.prog 13 #[.string s, .int .i64 n] w fun e w' => e = .returned (.string ⟨(sizedL s.data.toList n).toArray⟩) ∧ Fr [] w w' := by
  have hi5 : (Tryd.prog.info? 5).map (fun i => (i.zero, i.size, i.bytes)) = some (some (.int .u8 0), 1, 1) := by kernel_rfl
  obtain ⟨cap, W, hcv, oW, fW⟩ := run_ofStrB (P := Tryd.prog) w 9 35 5 s Tryd.underlying9 Tryd.underlying35 Tryd.underlying5 (by omega)
  obtain ⟨S, hS⟩ : ∃ S, S = s.data.toList := ⟨_, rfl⟩
  have hSl : S.length = s.size := by rw [hS]; simp
  rw [← hS] at oW ⊢
  have HS := Lib.hid hSl
  clear hS hSl
  go_enter Tryd.func13, Tryd.ntmps13
  go_wp2_with fail
  clear hcv
  go_loopw [5] (fun v5 wr => ∃ k : Nat, (k = 0 ∨ S.length + k ≤ n) ∧ OwnB wr w.heap.size v5 (S ++ zerosB k) ∧ Below w.heap.size w wr) (fun v _ => n - szLen v)
  case atStart => exact ⟨0, .inl rfl, by simpa [zerosB] using oW, fW.below⟩
  case round =>
    clear oW fW
    obtain ⟨k, hk, hO, hB⟩ := hrel
    have hlen : (S ++ zerosB k).length = S.length + k := by simp [zerosB]
    have hSl := HS.out
    have e0 : (S ++ zerosB k) ++ [0] = S ++ zerosB (k + 1) := by rw [List.append_assoc]; congr 1; simp [zerosB, List.replicate_succ']
    have hres : ¬ S.length + k < n → (S ++ zerosB k).take n = sizedL S n := fun hl => by
      unfold sizedL
      rcases hk with rfl | hk
      · rw [show n - S.length = 0 by omega]
      · rw [show n - S.length = k by omega]
    obtain ⟨X, hX⟩ : ∃ X, X = S ++ zerosB k := ⟨_, rfl⟩
    rw [← hX] at hlen hO e0 hres
    have HX := Lib.hid hX
    clear hX
    have hO' := hO
    obtain ⟨g, cap, rfl, hbg, hg, h1, h2, _⟩ := hO
    by_cases hl : S.length + k < n
    · have l1 : (X.length : Int) < n := by omega
      have A2 := At.alloc_new wr 5 #[Value.int .u8 0]
      obtain ⟨v', w', hrun, r1, r2⟩ := run_appOwnB (P := Tryd.prog) Tryd.underlying35 hi5 35 (y := 0) (hO'.keep (Fr.alloc [] wr (.cells #[Value.int .u8 0] 5))) A2 (by have := hB.size; simp; omega) (by omega)
      rw [e0] at r1
      have HB := Lib.hid ((hB.alloc (by have := hB.size; omega) _).trans r2)
      have HR := Lib.hid r1
      have HL := Lib.hid hlen
      clear e0 hres r1 r2 hO' h1 h2 hSl hlen
      go_wp2_with (first
        | (at_builtin; refine wpList_append_run rfl _ _ _ rfl _ _ _ _ rfl rfl hrun ?_)
        | fail)
      refine ⟨⟨k + 1, .inr (by omega), HR.out, HB.out⟩, ?_⟩
      obtain ⟨g', cap', hv', _⟩ := HR.out
      rw [hv']
      have := HL.out
      have h3 : (S ++ zerosB (k + 1)).length = S.length + (k + 1) := by simp [zerosB]
      simp only [szLen]; omega
    · have l1 : ¬ (X.length : Int) < n := by omega
      have l2 : (n : Int) ≤ cap := by omega
      have l3 : n ≤ cap := by omega
      have hcv := run_strOwnB (P := Tryd.prog) Tryd.underlying35 Tryd.underlying5 (d := 9) Tryd.underlying9 (n := n) (cap2 := cap) hO' (by omega)
      rw [hres hl] at hcv
      have HB := Lib.hid hB
      clear hres e0 hO' hlen h1 h2 hSl
      go_wp2_with fail
      go_ret
      exact ⟨rfl, Fr.ofBelow HB.out⟩
end Go.Proofs.YtichgiecohhmgaaDoor
