/- The law ShaHashers walked. -/
import Derived.Test.YtkagmoaapampgaaDoorHshP
namespace Go.Proofs.YtkagmoaapampgaaDoor
open Go.RowKit Go.Lib Go.Joins Base
set_option linter.unusedVariables false
set_option linter.unusedSimpArgs false

theorem plays_any (w0 w : World) (bb : Nat) (st : Nat → Option Pc) (hB : Bench w0 w bb st) (kind pl src : Int) (d : ByteArray) (hpl : -9223372036854775808 ≤ pl ∧ pl ≤ 9223372036854775807) (hsr : -9223372036854775808 ≤ src ∧ src ≤ 9223372036854775807) (hd : d.size ≤ 140737488351232) (hI : First w) (hR : Roots w) (hP : Powers w) (hQ : RefRoots w) :
    Calls Tryd.prog 18 #[.pointer (some ⟨bb, 0, none⟩), .agg #[.int .i64 kind, .int .i64 pl, .int .i64 src, .string d]] w (Played w0 bb) := by
  by_cases e1 : kind = 1
  · subst e1; exact plays_new w0 w bb st hB pl src d hpl hsr hd hI hR hP hQ
  by_cases e2 : kind = 2
  · subst e2; exact plays_write w0 w bb st hB pl src d hpl hsr hd hI hR hP hQ
  by_cases e3 : kind = 3
  · subst e3; exact plays_sum w0 w bb st hB pl src d hpl hsr hd hI hR hP hQ
  by_cases e4 : kind = 4
  · subst e4; exact plays_count w0 w bb st hB pl src d hpl hsr hd hI hR hP hQ
  by_cases e5 : kind = 5
  · subst e5; exact plays_state w0 w bb st hB pl src d hpl hsr hd hI hR hP hQ
  by_cases e6 : kind = 6
  · subst e6; exact plays_again w0 w bb st hB pl src d hpl hsr hd hI hR hP hQ
  by_cases e7 : kind = 7
  · subst e7; exact plays_lay w0 w bb st hB pl src d hpl hsr hd hI hR hP hQ
  exact plays_other w0 w bb st hB kind e1 e2 e3 e4 e5 e6 e7 pl src d hpl hsr hd hI hR hP hQ

set_option maxRecDepth 100000 in
set_option maxHeartbeats 4000000 in
theorem hashers_law {w : World} (v : Value) (ops : List MOp) (hv : IsOps w v ops) (hQ : RefRoots w) (hP : Powers w) (hI : First w) (hR : Roots w) :
    Calls Tryd.prog 6 #[v] w fun e w' => e = .returned (.bool true) ∧ Fr [] w w' := by
  obtain ⟨ad, cap, rfl, hops, hlen, hos⟩ := hv
  obtain ⟨bb, hbb⟩ : ∃ b, b = w.heap.size := ⟨_, rfl⟩
  obtain ⟨W, hW⟩ : ∃ W, W = w.alloc (.cells (bcells fun _ => none).toArray 43) := ⟨_, rfl⟩
  have hB0 : Bench w W bb (fun _ => none) := by
    have A0 := At.alloc_new w 43 (bcells fun _ => none).toArray
    rw [← hW, ← hbb, List.toList_toArray] at A0
    refine ⟨by rw [hW]; exact Fr.alloc _ _ _, by omega, A0, fun i hi c hc => (by cases hc), fun i j hi hj hij c d hc hd => (by cases hc)⟩
  have one : ∀ {w' : World} {st : Nat → Option Pc} (kind : Int), Bench w w' bb st → Calls Tryd.prog 18 #[.pointer (some ⟨bb, 0, none⟩), .agg #[.int .i64 kind, .int .i64 0, .int .i64 0, .string ⟨#[]⟩]] w' (Played w bb) := fun kind h =>
    plays_any w _ bb _ h kind 0 0 ⟨#[]⟩ (by omega) (by omega) (by decide) (hI.keep h.fr) (hR.keep h.fr (by simp)) (hP.keep h.fr) (hQ.keep h.fr)
  have hbuilt : (Tryd.prog.built 43 []) = some (bcells fun _ => none).toArray := by kernel_rfl
  go_enter Tryd.func6, Tryd.ntmps6
  go_wp2_with (first
    | refine wpList_built rfl 43 _ rfl (bcells fun _ => none).toArray (by kernel_rfl) ?_
    | refine wpList_built rfl 46 _ rfl #[.int .i64 1, .int .i64 0, .int .i64 0, .string ⟨#[]⟩] (by kernel_rfl) ?_
    | (go_at_call 18; rw [← hW, ← hbb]; refine (one 1 hB0).mono ?_; rintro e w1 ⟨rfl, st1, hB1⟩)
    | fail)
  have HO := Lib.hid hos
  have HL := Lib.hid hlen
  have HH := Lib.hid hops
  rw [← hbb]
  clear hos hbb hB0 hbuilt hW
  go_loopw [5] (fun v wr => ∃ (j : Nat) (st : Nat → Option Pc), j ≤ ops.length ∧ v = .int .i64 j ∧ Bench w wr bb st) (fun v _ => ops.length - (RowKit.intOf v).toNat)
  case atStart => exact ⟨0, st1, by omega, rfl, hB1⟩
  case round =>
    clear hB1
    obtain ⟨j, st, hj, rfl, hB⟩ := hrel
    by_cases hl : j < ops.length
    · have l1 : (j : Int) < ops.length := by omega
      obtain ⟨o, ho⟩ : ∃ o, ops[j]? = some o := ⟨_, List.getElem?_eq_getElem hl⟩
      obtain ⟨g, off, hce, c0, c1, c2, c3⟩ := (hops.keep hB.fr) j o ho
      have HC := Lib.hid hops
      subst hce
      have hlen := HL.out
      obtain ⟨ho1, ho2, ho3⟩ := HO.out o (List.mem_of_getElem? ho)
      have hrow : wr.rangeAt g (off + j * 4) [.int .i64 o.kind, .int .i64 o.place, .int .i64 o.src, .string o.s] := by
        intro k v hk
        match k, hk with
        | 0, hk => simp at hk; subst hk; exact c0
        | 1, hk => simp at hk; subst hk; exact c1
        | 2, hk => simp at hk; subst hk; exact c2
        | 3, hk => simp at hk; subst hk; exact c3
        | n + 4, hk => simp at hk
      have cP := plays_any w wr bb st hB o.kind o.place o.src o.s ho2 ho3 ho1 (hI.keep hB.fr) (hR.keep hB.fr (by simp)) (hP.keep hB.fr) (hQ.keep hB.fr)
      have w1 : IntKind.i64.wrap ((j : Int) + 1) = ((j + 1 : Nat) : Int) := by rw [IntWalk.i64_in _ (by omega)]; omega
      clear hops c0 c1 c2 c3 ho1 ho2 ho3 hlen ho hB
      go_wp2_with (first
        | refine wpList_load_mid rfl _ _ rfl g (off + j * 4) rfl _ _ hrow Tryd.underlying46 rfl (by kernel_rfl) ?_
        | (go_at_call 18; refine cP.mono ?_; rintro e w3 ⟨rfl, st3, hB3⟩)
        | fail)
      exact ⟨⟨j + 1, st3, by omega, by simp, hB3⟩, by simp only [RowKit.intOf]; omega⟩
    · obtain rfl : j = ops.length := by omega
      have l1 : ¬ (ops.length : Int) < ops.length := by omega
      have cP := one 3 hB
      clear hops
      go_wp2_with (first
        | refine wpList_built rfl 46 _ rfl #[.int .i64 3, .int .i64 0, .int .i64 0, .string ⟨#[]⟩] (by kernel_rfl) ?_
        | (go_at_call 18; refine cP.mono ?_; rintro e w3 ⟨rfl, st3, hB3⟩)
        | fail)
      go_ret
      exact ⟨rfl, hB3.fr⟩
end Go.Proofs.YtkagmoaapampgaaDoor
