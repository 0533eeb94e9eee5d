/- The law's first: a box ahead of all. -/
import Derived.Test.YthalpgandfbkdaaIdlK
import Derived.Laws.AppendOwnNone
namespace Go.Proofs.Ythalpgandfbkdaa
open Go.RowKit Go.Lib Go.Joins Base Go.Maps
set_option linter.unusedVariables false
set_option linter.unusedSimpArgs false

def box0 : Bx := ⟨0, ⟨#[102, 105, 114, 115, 116]⟩, ⟨#[116, 101, 120, 116]⟩, 0⟩
theorem boxes_one (l : List Bx) : ∀ u ∈ l.flatMap bxC, u.oneCell' = true := by
  intro u hu
  obtain ⟨r, _, hr⟩ := List.mem_flatMap.1 hu
  exact box_one r u hr
set_option maxRecDepth 100000 in
set_option maxHeartbeats 1000000 in
theorem first_any (v : Value) (bs : List Bx) (w : World) (hB : IsBoxes w v bs) :
    Calls Try.prog 14 #[v] w fun e w' => ∃ v', e = .returned v' ∧ w'.ownsRow w.heap.size 44 4 v' (bs.length + 1) ((box0 :: bs).flatMap bxC) ∧ Fr [] w w' := by
  have hi5 : (Try.prog.info? 44).map (fun i => (i.zero, i.size, i.bytes)) = some (some (.agg #[.int .i64 0, .string ByteArray.empty, .string ByteArray.empty, .int .i64 0]), 4, 48) := by kernel_rfl
  obtain ⟨iS, hiS, zS0, zS1, zS2⟩ := info_parts hi5
  have A0 := At.alloc_new w 44 #[.int .i64 0, .string ⟨#[102, 105, 114, 115, 116]⟩, .string ⟨#[116, 101, 120, 116]⟩, .int .i64 0]
  have o0 : (w.alloc (.cells #[.int .i64 0, .string ⟨#[102, 105, 114, 115, 116]⟩, .string ⟨#[116, 101, 120, 116]⟩, .int .i64 0] 44)).ownsRow w.heap.size 44 4 (.slice (some ⟨w.heap.size, 0, none⟩) 1 1) 1 (bxC box0) :=
    ⟨rfl, .inr ⟨w.heap.size, 1, _, rfl, Nat.le_refl _, A0.out, Nat.le_refl _, by unfold maxLen; omega, rfl, rfl⟩⟩
  have f0 := Fr.alloc [] w (.cells #[.int .i64 0, .string ⟨#[102, 105, 114, 115, 116]⟩, .string ⟨#[116, 101, 120, 116]⟩, .int .i64 0] 44)
  have hB1 := hB.keep f0
  obtain ⟨⟨rfl, rfl⟩ | ⟨ad, cap, rfl, hc, _⟩, hn, _⟩ := hB1
  · go_enter Try.func14, Try.ntmps14
    go_wp2_with (first
      | (at_builtin; refine wpList_append_own_none rfl _ _ _ rfl w.heap.size 44 iS 4 Try.underlying37 hiS _ 1 _ rfl o0 rfl ?_)
      | fail)
    go_ret
    exact ⟨_, rfl, by simpa using o0, f0⟩
  · have h1 := boxes_one bs
    have hl := flat_len bxC 4 bxC_len bs
    go_enter Try.func14, Try.ntmps14
    go_wp2_with (first
      | (at_builtin; refine wpList_append_own_wide _ rfl _ _ _ rfl w.heap.size 44 iS _ 4 48 Try.underlying37 hiS zS0 zS1 zS2 rfl (by decide) _ 1 _ rfl o0 ad bs.length cap (bs.flatMap bxC) rfl hl hc h1 (by simp [maxLen]; omega) (by omega) (by simp) ?_; intro v4 w4 o4 gr4 _)
      | fail)
    go_ret
    refine ⟨_, rfl, ?_, f0.new (S := [w.heap.size]) (Fr.ofGrown gr4 (by intro k hk; have hk : some w.heap.size = some k := hk; injection hk with hk; subst hk; exact List.mem_singleton.2 rfl)) (by simp)⟩
    have := o4
    rw [Nat.add_comm] at this
    exact this
end Go.Proofs.Ythalpgandfbkdaa
