/- The ideal sealer: its table handed out. -/
import Derived.Test.YthalpgandfbkdaaIdlD
import Derived.Lib.SliceRun
import Derived.Lib.Walk
namespace Go.Proofs.Ythalpgandfbkdaa
open Go.RowKit Go.Lib Go.Joins Base Go.Maps
set_option linter.unusedVariables false
set_option linter.unusedSimpArgs false

set_option maxRecDepth 100000 in
set_option maxHeartbeats 2000000 in
theorem clone_any (base n : Nat) (v : Value) (xs : List Value) (w : World) (hn : n ≤ 1099511627776) (h1 : ∀ u ∈ xs, u.oneCell' = true) (hR : w.ownsRow base 64 4 v n xs) :
    Calls Try.prog 25 #[v] w fun e w' => ∃ v', e = .returned v' ∧ w'.ownsRow w.heap.size 64 4 v' n xs ∧ Fr [] w w' := by
  have q22 : ∀ (w : World) (a : Option Addr) (n c n' c' : Nat), (binOp .eql 34 (.slice a n c) (.slice none n' c')).run Try.prog w = .ok (.bool a.isNone) w := fun w a n c n' c' => Lib.run_eql_slice_nil w _ _ a n c n' c' Try.underlying34
  have hiS5 : (Try.prog.info? 64).map (fun i => (i.zero, i.size, i.bytes)) = some (some (.agg #[.int .i64 0, .string ByteArray.empty, .string ByteArray.empty, .string ByteArray.empty]), 4, 56) := by kernel_rfl
  obtain ⟨iS, hiS, zS0, zS1, zS2⟩ := info_parts hiS5
  have hxl := hR.1
  rcases ownsRow_forms hR with ⟨rfl, rfl⟩ | ⟨g, cap, rfl⟩
  · obtain rfl := List.eq_nil_of_length_eq_zero (by simpa using hxl)
    go_enter Try.func25, Try.ntmps25
    go_wp2_with fail
    go_ret
    exact ⟨_, rfl, ⟨rfl, .inl ⟨rfl, rfl⟩⟩, Fr.refl _ _⟩
  · have A := Lib.hid hR
    clear hR
    go_enter Try.func25, Try.ntmps25
    go_wp2_with (at_builtin; refine wpList_append_own _ rfl _ _ 34 rfl w.heap.size 64 iS _ 4 56 Try.underlying34 hiS zS0 zS1 zS2 rfl (by decide) _ _ _ rfl (World.ownsRow_made w #[] 0 (Nat.le_refl _) (Nat.zero_le _) rfl) ⟨g, 0, none⟩ n cap xs rfl ?qc1 ?qc2 ?qc3 ?qc4 ?qc5 ?qc6 ?_)
    case qc1 => omega
    case qc2 =>
      intro j u hj
      have hjn := (List.getElem?_eq_some_iff.1 hj).1
      rw [Addr.add_lit, Nat.zero_add]
      refine Lib.cell?_alloc_some _ ?_
      rw [A.out.cellAt j (by omega)]
      exact hj
    case qc3 => exact h1
    case qc4 => unfold maxLen; omega
    case qc5 => omega
    case qc6 => simp
    intro v' w1 hown hgrow hnil
    go_wp2
    go_ret
    refine ⟨v', rfl, by simpa using hown, Fr.ofBelow (((Below.refl _ w).alloc (Nat.le_refl _) _).grown hgrow (by simp) (by intro k hk; simp [Value.ownBlock] at hk; omega))⟩
set_option maxRecDepth 100000 in
set_option maxHeartbeats 2000000 in
theorem clip_any (base n : Nat) (v : Value) (xs : List Value) (w : World) (hR : w.ownsRow base 64 4 v n xs) :
    Calls Try.prog 24 #[v] w fun e w' => ∃ ao c, e = .returned (.slice ao n c) ∧ (∀ ad, ao = some ad → ∀ j u, xs[j]? = some u → w.cell? (ad.add j) = some u) ∧ w = w' := by
  have hxl := hR.1
  rcases ownsRow_forms hR with ⟨rfl, rfl⟩ | ⟨g, cap, rfl⟩
  · go_enter Try.func24, Try.ntmps24
    go_wp2_with fail
    go_ret
    exact ⟨none, 0, rfl, by simp, rfl⟩
  · have hc := own_cap hR
    have A := Lib.hid hR
    clear hR
    have l1 : (n : Int) ≤ cap := by omega
    have l2 : n ≤ cap := by omega
    go_enter Try.func24, Try.ntmps24
    go_wp2_with fail
    go_ret
    refine ⟨some ⟨g, 0, none⟩, n, rfl, ?_, rfl⟩
    rintro ad h j u hj
    injection h with h
    subst h
    have hjn := (List.getElem?_eq_some_iff.1 hj).1
    rw [Addr.add_lit, Nat.zero_add, A.out.cellAt j (by omega)]
    exact hj
set_option maxRecDepth 100000 in
set_option maxHeartbeats 2000000 in
theorem table_any (base p b : Nat) (v : Value) (rs : List Rw) (F : ByteArray → Int) (hn : rs.length ≤ 1099511627776) (w : World) (hI : Idl w base p b v rs F) :
    Calls Try.prog 12 #[.pointer (some ⟨p, 0, none⟩)] w fun e w' => ∃ ao c, e = .returned (.slice ao rs.length c) ∧ (∀ ad, ao = some ad → ∀ j u, (rwsC rs)[j]? = some u → w'.cell? (ad.add j) = some u) ∧ Fr [] w w' := by
  have a0 := hI.at_.cell 0
  have h1 : ∀ u ∈ rwsC rs, u.oneCell' = true := by
    intro u hu
    obtain ⟨r, _, hr⟩ := List.mem_flatMap.1 hu
    exact rw_one r u hr
  have c1 := clone_any base rs.length v (rwsC rs) w hn h1 hI.row
  have c2 := fun (v' : Value) w' h => clip_any w.heap.size rs.length v' (rwsC rs) w' h
  go_enter Try.func12, Try.ntmps12
  go_wp2_with (first
    | (go_at_call 25; refine c1.mono ?_; rintro e w2 ⟨v', rfl, o2, f2⟩)
    | (go_at_call 24; refine (c2 _ _ o2).mono ?_; rintro e w3 ⟨ao, c, rfl, h3, rfl⟩)
    | fail)
  go_ret
  exact ⟨ao, c, rfl, h3, f2⟩
end Go.Proofs.Ythalpgandfbkdaa
