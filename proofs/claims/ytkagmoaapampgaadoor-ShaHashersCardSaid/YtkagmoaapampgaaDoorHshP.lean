/- The bench plays a step, kind by kind. (mkplays.py wrote it.) -/
import Derived.Test.YtkagmoaapampgaaDoorHshL
import Derived.Test.YtkagmoaapampgaaDoorUntil
namespace Go.Proofs.YtkagmoaapampgaaDoor
open Go.RowKit Go.Lib Go.Joins Base
set_option linter.unusedVariables false
set_option linter.unusedSimpArgs false

def Played (w0 : World) (bb : Nat) (e : Ending) (w' : World) : Prop := e = .returned (.bool true) ∧ ∃ st', Bench w0 w' bb st'
theorem restOf_none : restOf ([] : List UInt8) = [] := rfl
/-- What is in a place is written to. -/
theorem wr2 (w0 : World) (c : Pc) (d : ByteArray) (hd : d.size ≤ 140737488351232) (hs : c.A + c.R.size ≤ 1099511627776) : ∃ (v : Int) (R2 : ByteArray), c.A + R2.size ≤ 1099511627776 ∧
    (∀ w, Roots w → PcOk w0 w c → Calls Tryd.prog 23 #[.pointer (some ⟨c.hb, 0, none⟩), .string d] w fun e w' => e = .returned (.int .i64 v) ∧ Hold w' c.hb (wordsOf c.F R2.data.toList) (restOf R2.data.toList) (c.A + R2.size) ∧ Fr [c.hb] w w') ∧
    (∀ w, c.F.length = 8 → RH w c.r c.F c.A c.R → Calls Tryd.prog 37 #[.pointer (some ⟨c.r, 0, none⟩), .string d] w fun e w' => e = .returned (.int .i64 v) ∧ RH w' c.r c.F c.A R2 ∧ Fr [c.r] w w') := by
  by_cases hb : 1099511627776 < c.A + c.R.size + d.size
  · refine ⟨3, c.R, hs, fun w hR h => ?_, fun w hF h => ?_⟩
    · refine (write_any _ _ _ c.hb d hs w hR h.hold).mono ?_
      rintro e w' (⟨h1, rfl, f⟩ | ⟨h1, _⟩)
      · exact ⟨rfl, h.hold.keep f (by simp), f.mono (by simp)⟩
      · omega
    · refine (rwrite_any c.r c.F c.A c.R d hF hs (by omega) w h).mono ?_
      rintro e w' (⟨h1, rfl, f⟩ | ⟨h1, _⟩)
      · exact ⟨rfl, f.keep h (by simp), f.mono (by simp)⟩
      · omega
  · refine ⟨0, c.R ++ d, by rw [ByteArray.size_append]; omega, fun w hR h => ?_, fun w hF h => ?_⟩
    · refine (write_any _ _ _ c.hb d hs w hR h.hold).mono ?_
      rintro e w' (⟨h1, _⟩ | ⟨h1, rfl, h2, f⟩)
      · omega
      · refine ⟨rfl, ?_, f⟩
        rw [wordsOf_app, restOf_app] at h2
        rw [ByteArray.size_append, ByteArray.data_append, Array.toList_append, ← Nat.add_assoc]
        exact h2
    · refine (rwrite_any c.r c.F c.A c.R d hF hs (by omega) w h).mono ?_
      rintro e w' (⟨h1, _⟩ | ⟨h1, rfl, h2, f⟩)
      · omega
      · exact ⟨rfl, h2, f⟩

set_option maxRecDepth 100000 in
set_option maxHeartbeats 4000000 in
theorem plays_new (w0 w : World) (bb : Nat) (st : Nat → Option Pc) (hB : Bench w0 w bb st) (pl src : Int) (d : ByteArray) (hpl : -9223372036854775808 ≤ pl ∧ pl ≤ 9223372036854775807) (hsr : -9223372036854775808 ≤ src ∧ src ≤ 9223372036854775807) (hd : d.size ≤ 140737488351232) (hI : First w) (hR : Roots w) (hP : Powers w) (hQ : RefRoots w) :
    Calls Tryd.prog 18 #[.pointer (some ⟨bb, 0, none⟩), .agg #[.int .i64 1, .int .i64 pl, .int .i64 src, .string d]] w (Played w0 bb) := by
  have cp := fun w => place_any pl hpl w
  have cs := fun w => place_any src hsr w
  have A0 := At.alloc_new w 46 #[.int .i64 1, .int .i64 pl, .int .i64 src, .string d]
  have F0 := Fr.alloc [] w (.cells #[.int .i64 1, .int .i64 pl, .int .i64 src, .string d] 46)
  have q0 := A0.cell 0
  have q1 := A0.cell 1
  have q2 := A0.cell 2
  go_enter Tryd.func18, Tryd.ntmps18
  go_upto_region 4 with (first
    | (go_at_call 32; refine (cp _).mono ?_; clear cp; rintro e w8 ⟨i, hi, rfl, rfl⟩)
    | (go_at_call 32; refine (cs _).mono ?_; clear cs; rintro e w8 ⟨k, hk, rfl, rfl⟩)
    | fail)
  replace hB := hB.keep F0
  replace hI := hI.keep F0
  replace hR := hR.keep F0 (by simp)
  replace hP := hP.keep F0
  replace hQ := hQ.keep F0
  clear q0 q1 q2 F0
  obtain ⟨t, ht⟩ : ∃ t, t = w.heap.size := ⟨_, rfl⟩
  rw [← ht] at A0
  generalize w.alloc (.cells #[.int .i64 1, .int .i64 pl, .int .i64 src, .string d] 46) = W at A0 hB hI hR hP hQ ⊢
  rw [← ht]
  clear ht
  have htb : t ≠ bb := at_types A0 hB.cb (by decide)
  have hil : (i : Int) < 4 := by omega
  have hkl : (k : Int) < 4 := by omega
  obtain ⟨a0, ha0⟩ := own_one (st i)
  obtain ⟨b0, hb0⟩ := ref_one (st i)
  go_upto_region 5 with fail
  refine wp_region_until (fun _ => True) (fun _ => True) 1000 (by rfl) ?_
  have hT : True := trivial
  refine until_s0 0 (v := ?_) rfl (by kernel_rfl) (fun _ _ _ h => h) (Or.inl ⟨by rfl, ?_⟩) (by assumption) (fun h => by first | assumption | exact absurd (h : true = false) (by decide)) ?_
  rotate_left
  · intro w hSw; (try dsimp only at hSw); (try go_simp); (try with_reducible rfl)
  try simp only [Act.put, List.setIfInBounds_toArray, List.set_cons_zero, List.set_cons_succ]
  refine until_s0 1 (v := ?_) rfl (by kernel_rfl) (fun _ _ _ h => h) (Or.inl ⟨by rfl, ?_⟩) (by assumption) (fun h => by first | assumption | exact absurd (h : true = false) (by decide)) ?_
  rotate_left
  · intro w hSw; (try dsimp only at hSw); (try go_simp); (try with_reducible rfl)
  try simp only [Act.put, List.setIfInBounds_toArray, List.set_cons_zero, List.set_cons_succ]
  refine until_s0 3 (v := ?_) rfl (by kernel_rfl) (fun _ _ _ h => h) (Or.inl ⟨by rfl, ?_⟩) (by assumption) (fun h => by first | assumption | exact absurd (h : true = false) (by decide)) ?_
  rotate_left
  · intro w hSw; (try dsimp only at hSw); (try go_simp); (try with_reducible rfl)
  try simp only [Act.put, List.setIfInBounds_toArray, List.set_cons_zero, List.set_cons_succ]
  refine until_s0 4 (v := ?_) rfl (by kernel_rfl) (fun _ _ _ h => h) (Or.inl ⟨by rfl, ?_⟩) (by assumption) (fun h => by first | assumption | exact absurd (h : true = false) (by decide)) ?_
  rotate_left
  · intro w hSw; (try dsimp only at hSw); (try go_simp); (try with_reducible rfl)
  try simp only [Act.put, List.setIfInBounds_toArray, List.set_cons_zero, List.set_cons_succ]
  refine until_sole 2 rfl (by kernel_rfl) (by rfl) ?_
  intro K' hK
  go_simp
  go_at_call 22
  refine (newHasher_any W.drew (hI.keep (Fr.drew _ _)) (hR.keep (Fr.drew [] _) (by simp))).mono ?_
  rintro _ w1 ⟨rfl, h1, f1⟩
  go_wp2_with fail
  refine hK _ _ (trivial) (fun _ => trivial) ?_
  clear hK

  have hsz0 := hB.fr.size
  have hB0 := hB
  replace f1 : Fr [] W w1 := (Fr.drew [] W).trans f1
  have hB := hB.keep f1
  have ci := hB.cb.cell i
  have fi := hB.cb.frozen i
  rw [bcells_own st i hi, ha0] at ci
  have hl1 : W.heap.size < w1.heap.size := by obtain ⟨cs, hA⟩ := h1.at_; exact hA.lt
  refine until_s0 5 (v := ?_) rfl (by kernel_rfl) (fun _ _ _ h => h) (Or.inl ⟨by rfl, ?_⟩) (by assumption) (fun h => by first | assumption | exact absurd (h : true = false) (by decide)) ?_
  rotate_left
  · intro w hSw; (try dsimp only at hSw); (try go_simp); (try with_reducible rfl)
  try simp only [Act.put, List.setIfInBounds_toArray, List.set_cons_zero, List.set_cons_succ]
  refine until_sole 6 rfl (by kernel_rfl) (by rfl) ?_
  intro K' hK
  go_simp
  refine hK _ _ trivial (fun _ => trivial) ?_
  clear hK
  refine until_done (by kernel_rfl) ?_ _
  have hA1 := hB.cb.setCell i (.pointer (some ⟨W.heap.size, 0, none⟩))
  have Fs1 := Fr.setCell [bb] w1 ⟨bb, i, none⟩ (.pointer (some ⟨W.heap.size, 0, none⟩)) (.inl (by simp))
  replace h1 := h1.keep Fs1 (by have := hB0.cb.lt; simp; omega)
  change Hold _ W.heap.size _ _ _ at h1
  generalize w1.setCell ⟨bb, i, none⟩ (.pointer (some ⟨W.heap.size, 0, none⟩)) = W1 at hA1 Fs1 h1 ⊢
  replace Fs1 : Fr [bb] W W1 := (f1.mono (by simp)).trans Fs1
  have hs1 := Fs1.size
  obtain ⟨p, hp⟩ : ∃ p, p = W.heap.size := ⟨_, rfl⟩
  rw [← hp] at h1 hA1 hl1 ⊢
  have HPp := Lib.hid (And.intro hp (And.intro hl1 (And.intro hsz0 hs1)))
  clear ci fi f1 hp hl1 hsz0 hs1 hB
  go_upto_region 6 with fail
  refine wp_region_until (fun _ => True) (fun _ => True) 1000 (by rfl) ?_
  refine until_s0 0 (v := ?_) rfl (by kernel_rfl) (fun _ _ _ h => h) (Or.inl ⟨by rfl, ?_⟩) (by assumption) (fun h => by first | assumption | exact absurd (h : true = false) (by decide)) ?_
  rotate_left
  · intro w hSw; (try dsimp only at hSw); (try go_simp); (try with_reducible rfl)
  try simp only [Act.put, List.setIfInBounds_toArray, List.set_cons_zero, List.set_cons_succ]
  refine until_s0 1 (v := ?_) rfl (by kernel_rfl) (fun _ _ _ h => h) (Or.inl ⟨by rfl, ?_⟩) (by assumption) (fun h => by first | assumption | exact absurd (h : true = false) (by decide)) ?_
  rotate_left
  · intro w hSw; (try dsimp only at hSw); (try go_simp); (try with_reducible rfl)
  try simp only [Act.put, List.setIfInBounds_toArray, List.set_cons_zero, List.set_cons_succ]
  refine until_s0 3 (v := ?_) rfl (by kernel_rfl) (fun _ _ _ h => h) (Or.inl ⟨by rfl, ?_⟩) (by assumption) (fun h => by first | assumption | exact absurd (h : true = false) (by decide)) ?_
  rotate_left
  · intro w hSw; (try dsimp only at hSw); (try go_simp); (try with_reducible rfl)
  try simp only [Act.put, List.setIfInBounds_toArray, List.set_cons_zero, List.set_cons_succ]
  refine until_s0 4 (v := ?_) rfl (by kernel_rfl) (fun _ _ _ h => h) (Or.inl ⟨by rfl, ?_⟩) (by assumption) (fun h => by first | assumption | exact absurd (h : true = false) (by decide)) ?_
  rotate_left
  · intro w hSw; (try dsimp only at hSw); (try go_simp); (try with_reducible rfl)
  try simp only [Act.put, List.setIfInBounds_toArray, List.set_cons_zero, List.set_cons_succ]
  refine until_sole 2 rfl (by kernel_rfl) (by rfl) ?_
  intro K' hK
  go_simp
  go_at_call 33
  refine (rnewh_any W1.drew).mono ?_
  rintro _ w2 ⟨r, rfl, hr, h2, f2⟩
  go_wp2_with fail
  refine hK _ _ (trivial) (fun _ => trivial) ?_
  clear hK

  replace f2 : Fr [] W1 w2 := (Fr.drew [] W1).trans f2
  have hA2 := f2.keep hA1 (by simp)
  have ci := hA2.cell (4 + i)
  have fi := hA2.frozen (4 + i)
  rw [List.getElem?_set_ne (by omega), bcells_ref st i hi, hb0] at ci
  refine until_s0 5 (v := ?_) rfl (by kernel_rfl) (fun _ _ _ h => h) (Or.inl ⟨by rfl, ?_⟩) (by assumption) (fun h => by first | assumption | exact absurd (h : true = false) (by decide)) ?_
  rotate_left
  · intro w hSw; (try dsimp only at hSw); (try go_simp); (try with_reducible rfl)
  try simp only [Act.put, List.setIfInBounds_toArray, List.set_cons_zero, List.set_cons_succ]
  refine until_sole 6 rfl (by kernel_rfl) (by rfl) ?_
  intro K' hK
  go_simp
  refine hK _ _ trivial (fun _ => trivial) ?_
  clear hK
  refine until_done (by kernel_rfl) ?_ _
  have hA3 := hA2.setCell (4 + i) (.pointer (some ⟨r, 0, none⟩))
  have Fs2 := Fr.setCell [bb] w2 ⟨bb, 4 + i, none⟩ (.pointer (some ⟨r, 0, none⟩)) (.inl (by simp))
  have hbl := hB0.cb.lt
  obtain ⟨hp, hl1, hsz0, hs1⟩ := HPp.out
  change W1.heap.size ≤ r at hr
  have h1' := (h1.keep f2 (by simp)).keep Fs2 (by simp; omega)
  have h2' : RH _ r firstL 0 ⟨#[]⟩ := Fs2.keep h2 (by simp; omega)
  have FF := (Fs1.trans (f2.mono (by simp))).trans Fs2
  generalize w2.setCell ⟨bb, 4 + i, none⟩ (.pointer (some ⟨r, 0, none⟩)) = W2 at hA3 Fs2 h1' h2' FF ⊢
  rw [show ((bcells st).set i (.pointer (some ⟨p, 0, none⟩))).set (4 + i) (.pointer (some ⟨r, 0, none⟩)) = bcells (upd st i (some ⟨p, r, firstL, 0, ⟨#[]⟩⟩)) from bcells_set st i hi (some ⟨p, r, firstL, 0, ⟨#[]⟩⟩)] at hA3
  have c7 := hA3.cell i
  rw [bcells_own _ i hi, upd_same] at c7
  change _ = some (Value.pointer (some ⟨p, 0, none⟩)) at c7
  have hfin := hB0.put i hi (some ⟨p, r, firstL, 0, ⟨#[]⟩⟩) FF hA3 (fun c hc => by
    cases hc
    have hX : Hold W2 p (wordsOf firstL (⟨#[]⟩ : ByteArray).data.toList) (restOf (⟨#[]⟩ : ByteArray).data.toList) (0 + (⟨#[]⟩ : ByteArray).size) := h1'
    exact ⟨⟨hX, h2', rfl, rfl, by show (0 : Nat) ≤ _; omega, by show _ ≤ p; omega, by show _ ≤ r; omega⟩, by show _ ≤ p; omega, by show _ ≤ r; omega⟩)
  clear hp hl1 hsz0 hs1 hr h1' h2' FF hA3 Fs2 h1 h2 ci fi hbl hA1 hA2 hB0 Fs1 hb0 ha0
  go_wp2_with fail
  go_ret
  exact ⟨rfl, _, hfin⟩

set_option maxRecDepth 100000 in
set_option maxHeartbeats 4000000 in
theorem plays_lay (w0 w : World) (bb : Nat) (st : Nat → Option Pc) (hB : Bench w0 w bb st) (pl src : Int) (d : ByteArray) (hpl : -9223372036854775808 ≤ pl ∧ pl ≤ 9223372036854775807) (hsr : -9223372036854775808 ≤ src ∧ src ≤ 9223372036854775807) (hd : d.size ≤ 140737488351232) (hI : First w) (hR : Roots w) (hP : Powers w) (hQ : RefRoots w) :
    Calls Tryd.prog 18 #[.pointer (some ⟨bb, 0, none⟩), .agg #[.int .i64 7, .int .i64 pl, .int .i64 src, .string d]] w (Played w0 bb) := by
  have cp := fun w => place_any pl hpl w
  have cs := fun w => place_any src hsr w
  have A0 := At.alloc_new w 46 #[.int .i64 7, .int .i64 pl, .int .i64 src, .string d]
  have F0 := Fr.alloc [] w (.cells #[.int .i64 7, .int .i64 pl, .int .i64 src, .string d] 46)
  have q0 := A0.cell 0
  have q1 := A0.cell 1
  have q2 := A0.cell 2
  go_enter Tryd.func18, Tryd.ntmps18
  go_upto_region 4 with (first
    | (go_at_call 32; refine (cp _).mono ?_; clear cp; rintro e w8 ⟨i, hi, rfl, rfl⟩)
    | (go_at_call 32; refine (cs _).mono ?_; clear cs; rintro e w8 ⟨k, hk, rfl, rfl⟩)
    | fail)
  replace hB := hB.keep F0
  replace hI := hI.keep F0
  replace hR := hR.keep F0 (by simp)
  replace hP := hP.keep F0
  replace hQ := hQ.keep F0
  clear q0 q1 q2 F0
  obtain ⟨t, ht⟩ : ∃ t, t = w.heap.size := ⟨_, rfl⟩
  rw [← ht] at A0
  generalize w.alloc (.cells #[.int .i64 7, .int .i64 pl, .int .i64 src, .string d] 46) = W at A0 hB hI hR hP hQ ⊢
  rw [← ht]
  clear ht
  have htb : t ≠ bb := at_types A0 hB.cb (by decide)
  have hil : (i : Int) < 4 := by omega
  have hkl : (k : Int) < 4 := by omega
  have q0 := A0.cell 0
  have q3 := A0.cell 3
  go_wp2_with (first
    | (go_at_call 34; refine (lay_any w0 W bb st hB i hi d (by omega) hI hR).mono ?_; rintro e w9 ⟨rfl, st', h'⟩)
    | fail)
  go_ret
  exact ⟨rfl, st', h'⟩

set_option maxRecDepth 100000 in
set_option maxHeartbeats 4000000 in
theorem plays_again (w0 w : World) (bb : Nat) (st : Nat → Option Pc) (hB : Bench w0 w bb st) (pl src : Int) (d : ByteArray) (hpl : -9223372036854775808 ≤ pl ∧ pl ≤ 9223372036854775807) (hsr : -9223372036854775808 ≤ src ∧ src ≤ 9223372036854775807) (hd : d.size ≤ 140737488351232) (hI : First w) (hR : Roots w) (hP : Powers w) (hQ : RefRoots w) :
    Calls Tryd.prog 18 #[.pointer (some ⟨bb, 0, none⟩), .agg #[.int .i64 6, .int .i64 pl, .int .i64 src, .string d]] w (Played w0 bb) := by
  have cp := fun w => place_any pl hpl w
  have cs := fun w => place_any src hsr w
  have A0 := At.alloc_new w 46 #[.int .i64 6, .int .i64 pl, .int .i64 src, .string d]
  have F0 := Fr.alloc [] w (.cells #[.int .i64 6, .int .i64 pl, .int .i64 src, .string d] 46)
  have q0 := A0.cell 0
  have q1 := A0.cell 1
  have q2 := A0.cell 2
  go_enter Tryd.func18, Tryd.ntmps18
  go_upto_region 4 with (first
    | (go_at_call 32; refine (cp _).mono ?_; clear cp; rintro e w8 ⟨i, hi, rfl, rfl⟩)
    | (go_at_call 32; refine (cs _).mono ?_; clear cs; rintro e w8 ⟨k, hk, rfl, rfl⟩)
    | fail)
  replace hB := hB.keep F0
  replace hI := hI.keep F0
  replace hR := hR.keep F0 (by simp)
  replace hP := hP.keep F0
  replace hQ := hQ.keep F0
  clear q0 q1 q2 F0
  obtain ⟨t, ht⟩ : ∃ t, t = w.heap.size := ⟨_, rfl⟩
  rw [← ht] at A0
  generalize w.alloc (.cells #[.int .i64 6, .int .i64 pl, .int .i64 src, .string d] 46) = W at A0 hB hI hR hP hQ ⊢
  rw [← ht]
  clear ht
  have htb : t ≠ bb := at_types A0 hB.cb (by decide)
  have hil : (i : Int) < 4 := by omega
  have hkl : (k : Int) < 4 := by omega
  cases hc : st k with
  | none =>
    have q0 := A0.cell 0
    have c4 := hB.cb.cell (4 + k)
    have c0 := hB.cb.cell k
    rw [bcells_ref st k hk, hc] at c4
    rw [bcells_own st k hk, hc] at c0
    change _ = some (Value.pointer none) at c0
    change _ = some (Value.pointer none) at c4
    go_wp2_with (first
      | (go_at_call 20; refine (state_nil _).mono ?_; rintro e w9 ⟨rfl, f9⟩)
      | fail)
    go_ret
    exact ⟨rfl, st, hB.keep f9⟩
  | some c =>
    have q0 := A0.cell 0
    have kk := hB.ok k hk c hc
    have hcell : ∀ w', Fr [] W w' → w'.cell? ⟨bb, 4 + k, none⟩ = some (.pointer (some ⟨c.r, 0, none⟩)) ∧ w'.cell? ⟨bb, k, none⟩ = some (.pointer (some ⟨c.hb, 0, none⟩)) := fun w' f => by
      have hB' := hB.keep f
      have h1 := hB'.cb.cell (4 + k)
      have h2 := hB'.cb.cell k
      rw [bcells_ref st k hk, hc] at h1
      rw [bcells_own st k hk, hc] at h2
      exact ⟨h1, h2⟩
    obtain ⟨c4, c0⟩ := hcell W (Fr.refl _ _)
    have cO := state_any _ _ _ c.hb (Nat.le_trans kk.sz (by decide)) W kk.hold
    have cR := fun w' (h : RH w' c.r c.F c.A c.R) (h1 : Powers w') (h2 : RefRoots w') => rstateh_any c.r c.F c.A c.R kk.f8 kk.sz w' h1 h2 h
    have hYl := (stateOf_parts (wordsOf c.F c.R.data.toList) (restOf c.R.data.toList) (c.A + c.R.size) (wordsOf_len _ _ kk.f8)).2.2.2
    have hYr := restOf_lt c.R.data.toList
    obtain ⟨Y, hY⟩ : ∃ Y : ByteArray, Y = ⟨(stateOf (wordsOf c.F c.R.data.toList) (restOf c.R.data.toList) (c.A + c.R.size)).toArray⟩ := ⟨_, rfl⟩
    have hYs : Y.size ≤ 140737488355328 := by
      rw [hY]
      show (stateOf _ _ _).toArray.size ≤ _
      rw [List.size_toArray]; omega
    rw [← hY] at cO cR
    clear hY hYl hYr
    go_wp2_with (first
      | (go_at_call 20; refine cO.mono ?_; clear cO; rintro e w9 ⟨rfl, f9⟩; obtain ⟨d4, d0⟩ := hcell w9 f9)
      | (go_at_call 35; refine (cR _ (f9.keep kk.rh (by simp)) (hP.keep f9) (hQ.keep f9)).mono ?_; clear cR; rintro e w10 ⟨rfl, f10⟩; have f10 := f9.trans f10)
      | (go_at_call 34; refine (lay_any w0 w10 bb st (hB.keep f10) i hi Y hYs (hI.keep f10) (hR.keep f10 (by simp))).mono ?_; rintro e w11 ⟨rfl, st', h'⟩)
      | fail)
    go_ret
    exact ⟨rfl, st', h'⟩

set_option maxRecDepth 100000 in
set_option maxHeartbeats 4000000 in
theorem plays_sum (w0 w : World) (bb : Nat) (st : Nat → Option Pc) (hB : Bench w0 w bb st) (pl src : Int) (d : ByteArray) (hpl : -9223372036854775808 ≤ pl ∧ pl ≤ 9223372036854775807) (hsr : -9223372036854775808 ≤ src ∧ src ≤ 9223372036854775807) (hd : d.size ≤ 140737488351232) (hI : First w) (hR : Roots w) (hP : Powers w) (hQ : RefRoots w) :
    Calls Tryd.prog 18 #[.pointer (some ⟨bb, 0, none⟩), .agg #[.int .i64 3, .int .i64 pl, .int .i64 src, .string d]] w (Played w0 bb) := by
  have cp := fun w => place_any pl hpl w
  have cs := fun w => place_any src hsr w
  have A0 := At.alloc_new w 46 #[.int .i64 3, .int .i64 pl, .int .i64 src, .string d]
  have F0 := Fr.alloc [] w (.cells #[.int .i64 3, .int .i64 pl, .int .i64 src, .string d] 46)
  have q0 := A0.cell 0
  have q1 := A0.cell 1
  have q2 := A0.cell 2
  go_enter Tryd.func18, Tryd.ntmps18
  go_upto_region 4 with (first
    | (go_at_call 32; refine (cp _).mono ?_; clear cp; rintro e w8 ⟨i, hi, rfl, rfl⟩)
    | (go_at_call 32; refine (cs _).mono ?_; clear cs; rintro e w8 ⟨k, hk, rfl, rfl⟩)
    | fail)
  replace hB := hB.keep F0
  replace hI := hI.keep F0
  replace hR := hR.keep F0 (by simp)
  replace hP := hP.keep F0
  replace hQ := hQ.keep F0
  clear q0 q1 q2 F0
  obtain ⟨t, ht⟩ : ∃ t, t = w.heap.size := ⟨_, rfl⟩
  rw [← ht] at A0
  generalize w.alloc (.cells #[.int .i64 3, .int .i64 pl, .int .i64 src, .string d] 46) = W at A0 hB hI hR hP hQ ⊢
  rw [← ht]
  clear ht
  have htb : t ≠ bb := at_types A0 hB.cb (by decide)
  have hil : (i : Int) < 4 := by omega
  have hkl : (k : Int) < 4 := by omega
  cases hc : st i with
  | none =>
    have q0 := A0.cell 0
    have c4 := hB.cb.cell (4 + i)
    rw [bcells_ref st i hi, hc] at c4
    change _ = some (Value.pointer none) at c4
    have hsz4 : (Tryd.prog.info? 46).map (·.size) = some (#[Value.int .i64 3, .int .i64 pl, .int .i64 src, .string d] : Array Value).size := by kernel_rfl
    go_wp2_with (first
      | refine wpList_load_row rfl _ _ rfl _ rfl _ _ _ _ A0.out Tryd.underlying46 rfl hsz4 ?_
      | (go_at_call 36; refine (none_any 3 pl src d _).mono ?_; rintro e w9 ⟨rfl, f9⟩)
      | fail)
    go_ret
    exact ⟨rfl, st, hB.keep f9⟩
  | some c =>
    have q0 := A0.cell 0
    have kk := hB.ok i hi c hc
    have hcell : ∀ w', Fr [] W w' → w'.cell? ⟨bb, 4 + i, none⟩ = some (.pointer (some ⟨c.r, 0, none⟩)) ∧ w'.cell? ⟨bb, i, none⟩ = some (.pointer (some ⟨c.hb, 0, none⟩)) := fun w' f => by
      have hB' := hB.keep f
      have h1 := hB'.cb.cell (4 + i)
      have h2 := hB'.cb.cell i
      rw [bcells_ref st i hi, hc] at h1
      rw [bcells_own st i hi, hc] at h2
      exact ⟨h1, h2⟩
    obtain ⟨c4, c0⟩ := hcell W (Fr.refl _ _)

    have cO : ∀ w', Hold w' c.hb (wordsOf c.F c.R.data.toList) (restOf c.R.data.toList) (c.A + c.R.size) → Roots w' → Calls Tryd.prog 24 #[.pointer (some ⟨c.hb, 0, none⟩)] w' fun e w'' => e = .returned (.string ⟨(sumOf c.F c.R.data.toList (c.A + c.R.size)).toArray⟩) ∧ Fr [] w' w'' := fun w' h1 h2 => by
      have := hsum_any _ _ _ c.hb (Nat.le_trans kk.sz (by decide)) w' h2 h1
      rw [sumOf_rest] at this
      exact this
    have cR := fun w' (h : RH w' c.r c.F c.A c.R) (h1 : Powers w') (h2 : RefRoots w') => rsumh_any c.r c.F c.A c.R kk.f8 kk.sz w' h1 h2 h
    obtain ⟨Y, hY⟩ : ∃ Y : ByteArray, Y = ⟨(sumOf c.F c.R.data.toList (c.A + c.R.size)).toArray⟩ := ⟨_, rfl⟩
    rw [← hY] at cO cR
    clear hY
    obtain ⟨G, hG⟩ : ∃ G : World → Prop, G = fun w' => Fr [] W w' := ⟨_, rfl⟩
    have gW : ∀ w', G w' ↔ Fr [] W w' := fun w' => by rw [hG]
    clear hG
    have qo : ∀ x : Gw G, x.w.cell? ⟨bb, i, none⟩ = some (.pointer (some ⟨c.hb, 0, none⟩)) := fun x => (hcell _ ((gW _).1 x.ok)).2
    have qr : ∀ x : Gw G, x.w.cell? ⟨bb, 4 + i, none⟩ = some (.pointer (some ⟨c.r, 0, none⟩)) := fun x => (hcell _ ((gW _).1 x.ok)).1
    have cO' := fun x : Gw G => cO x.w (kk.hold.keep ((gW _).1 x.ok) (by simp)) (hR.keep ((gW _).1 x.ok) (by simp))
    have cR' := fun x : Gw G => cR x.w (((gW _).1 x.ok).keep kk.rh (by simp)) (hP.keep ((gW _).1 x.ok)) (hQ.keep ((gW _).1 x.ok))
    have g1 : ∀ (x : Gw G) w', Fr [] x.w w' → G w' := fun x w' f => (gW _).2 (((gW _).1 x.ok).trans f)
    have gz : G W.drew := (gW _).2 (Fr.drew _ _)
    have ne : Nonempty (Gw G) := ⟨⟨_, gz⟩⟩
    clear cO cR
    go_upto_region 22 with fail
    clear c0 c4 hcell
    refine wp_region_gw G (by kernel_rfl) (by kernel_rfl) gz ?_
    repeat (go_big_quiet_step (first
      | (go_at_call 24; exact gw_call (cO' _) (g1 _))
      | (go_at_call 38; exact gw_call (cR' _) (g1 _))))
    refine wpQuiet_nil ?_
    rintro _ ⟨x, rfl⟩
    have f := (gW _).1 x.ok
    go_wp2_with fail
    go_ret
    exact ⟨rfl, st, hB.keep f⟩

set_option maxRecDepth 100000 in
set_option maxHeartbeats 4000000 in
theorem plays_count (w0 w : World) (bb : Nat) (st : Nat → Option Pc) (hB : Bench w0 w bb st) (pl src : Int) (d : ByteArray) (hpl : -9223372036854775808 ≤ pl ∧ pl ≤ 9223372036854775807) (hsr : -9223372036854775808 ≤ src ∧ src ≤ 9223372036854775807) (hd : d.size ≤ 140737488351232) (hI : First w) (hR : Roots w) (hP : Powers w) (hQ : RefRoots w) :
    Calls Tryd.prog 18 #[.pointer (some ⟨bb, 0, none⟩), .agg #[.int .i64 4, .int .i64 pl, .int .i64 src, .string d]] w (Played w0 bb) := by
  have cp := fun w => place_any pl hpl w
  have cs := fun w => place_any src hsr w
  have A0 := At.alloc_new w 46 #[.int .i64 4, .int .i64 pl, .int .i64 src, .string d]
  have F0 := Fr.alloc [] w (.cells #[.int .i64 4, .int .i64 pl, .int .i64 src, .string d] 46)
  have q0 := A0.cell 0
  have q1 := A0.cell 1
  have q2 := A0.cell 2
  go_enter Tryd.func18, Tryd.ntmps18
  go_upto_region 4 with (first
    | (go_at_call 32; refine (cp _).mono ?_; clear cp; rintro e w8 ⟨i, hi, rfl, rfl⟩)
    | (go_at_call 32; refine (cs _).mono ?_; clear cs; rintro e w8 ⟨k, hk, rfl, rfl⟩)
    | fail)
  replace hB := hB.keep F0
  replace hI := hI.keep F0
  replace hR := hR.keep F0 (by simp)
  replace hP := hP.keep F0
  replace hQ := hQ.keep F0
  clear q0 q1 q2 F0
  obtain ⟨t, ht⟩ : ∃ t, t = w.heap.size := ⟨_, rfl⟩
  rw [← ht] at A0
  generalize w.alloc (.cells #[.int .i64 4, .int .i64 pl, .int .i64 src, .string d] 46) = W at A0 hB hI hR hP hQ ⊢
  rw [← ht]
  clear ht
  have htb : t ≠ bb := at_types A0 hB.cb (by decide)
  have hil : (i : Int) < 4 := by omega
  have hkl : (k : Int) < 4 := by omega
  cases hc : st i with
  | none =>
    have q0 := A0.cell 0
    have c4 := hB.cb.cell (4 + i)
    rw [bcells_ref st i hi, hc] at c4
    change _ = some (Value.pointer none) at c4
    have hsz4 : (Tryd.prog.info? 46).map (·.size) = some (#[Value.int .i64 4, .int .i64 pl, .int .i64 src, .string d] : Array Value).size := by kernel_rfl
    go_wp2_with (first
      | refine wpList_load_row rfl _ _ rfl _ rfl _ _ _ _ A0.out Tryd.underlying46 rfl hsz4 ?_
      | (go_at_call 36; refine (none_any 4 pl src d _).mono ?_; rintro e w9 ⟨rfl, f9⟩)
      | fail)
    go_ret
    exact ⟨rfl, st, hB.keep f9⟩
  | some c =>
    have q0 := A0.cell 0
    have kk := hB.ok i hi c hc
    have hcell : ∀ w', Fr [] W w' → w'.cell? ⟨bb, 4 + i, none⟩ = some (.pointer (some ⟨c.r, 0, none⟩)) ∧ w'.cell? ⟨bb, i, none⟩ = some (.pointer (some ⟨c.hb, 0, none⟩)) := fun w' f => by
      have hB' := hB.keep f
      have h1 := hB'.cb.cell (4 + i)
      have h2 := hB'.cb.cell i
      rw [bcells_ref st i hi, hc] at h1
      rw [bcells_own st i hi, hc] at h2
      exact ⟨h1, h2⟩
    obtain ⟨c4, c0⟩ := hcell W (Fr.refl _ _)

    have cO := fun w' (h : Hold w' c.hb (wordsOf c.F c.R.data.toList) (restOf c.R.data.toList) (c.A + c.R.size)) (h2 : Roots w') => count_any _ _ _ c.hb w' h
    have cR := fun w' (h : RH w' c.r c.F c.A c.R) (h1 : Powers w') (h2 : RefRoots w') => rcount_any c.r c.F c.A c.R kk.f8 kk.sz w' h
    generalize ((c.A + c.R.size : Nat) : Int) = Y at cO cR
    obtain ⟨G, hG⟩ : ∃ G : World → Prop, G = fun w' => Fr [] W w' := ⟨_, rfl⟩
    have gW : ∀ w', G w' ↔ Fr [] W w' := fun w' => by rw [hG]
    clear hG
    have qo : ∀ x : Gw G, x.w.cell? ⟨bb, i, none⟩ = some (.pointer (some ⟨c.hb, 0, none⟩)) := fun x => (hcell _ ((gW _).1 x.ok)).2
    have qr : ∀ x : Gw G, x.w.cell? ⟨bb, 4 + i, none⟩ = some (.pointer (some ⟨c.r, 0, none⟩)) := fun x => (hcell _ ((gW _).1 x.ok)).1
    have cO' := fun x : Gw G => cO x.w (kk.hold.keep ((gW _).1 x.ok) (by simp)) (hR.keep ((gW _).1 x.ok) (by simp))
    have cR' := fun x : Gw G => cR x.w (((gW _).1 x.ok).keep kk.rh (by simp)) (hP.keep ((gW _).1 x.ok)) (hQ.keep ((gW _).1 x.ok))
    have g1 : ∀ (x : Gw G) w', Fr [] x.w w' → G w' := fun x w' f => (gW _).2 (((gW _).1 x.ok).trans f)
    have gz : G W.drew := (gW _).2 (Fr.drew _ _)
    have ne : Nonempty (Gw G) := ⟨⟨_, gz⟩⟩
    clear cO cR
    go_upto_region 24 with fail
    clear c0 c4 hcell
    refine wp_region_gw G (by kernel_rfl) (by kernel_rfl) gz ?_
    repeat (go_big_quiet_step (first
      | (go_at_call 25; exact gw_call (cO' _) (g1 _))
      | (go_at_call 39; exact gw_call (cR' _) (g1 _))))
    refine wpQuiet_nil ?_
    rintro _ ⟨x, rfl⟩
    have f := (gW _).1 x.ok
    go_wp2_with fail
    go_ret
    exact ⟨rfl, st, hB.keep f⟩

set_option maxRecDepth 100000 in
set_option maxHeartbeats 4000000 in
theorem plays_state (w0 w : World) (bb : Nat) (st : Nat → Option Pc) (hB : Bench w0 w bb st) (pl src : Int) (d : ByteArray) (hpl : -9223372036854775808 ≤ pl ∧ pl ≤ 9223372036854775807) (hsr : -9223372036854775808 ≤ src ∧ src ≤ 9223372036854775807) (hd : d.size ≤ 140737488351232) (hI : First w) (hR : Roots w) (hP : Powers w) (hQ : RefRoots w) :
    Calls Tryd.prog 18 #[.pointer (some ⟨bb, 0, none⟩), .agg #[.int .i64 5, .int .i64 pl, .int .i64 src, .string d]] w (Played w0 bb) := by
  have cp := fun w => place_any pl hpl w
  have cs := fun w => place_any src hsr w
  have A0 := At.alloc_new w 46 #[.int .i64 5, .int .i64 pl, .int .i64 src, .string d]
  have F0 := Fr.alloc [] w (.cells #[.int .i64 5, .int .i64 pl, .int .i64 src, .string d] 46)
  have q0 := A0.cell 0
  have q1 := A0.cell 1
  have q2 := A0.cell 2
  go_enter Tryd.func18, Tryd.ntmps18
  go_upto_region 4 with (first
    | (go_at_call 32; refine (cp _).mono ?_; clear cp; rintro e w8 ⟨i, hi, rfl, rfl⟩)
    | (go_at_call 32; refine (cs _).mono ?_; clear cs; rintro e w8 ⟨k, hk, rfl, rfl⟩)
    | fail)
  replace hB := hB.keep F0
  replace hI := hI.keep F0
  replace hR := hR.keep F0 (by simp)
  replace hP := hP.keep F0
  replace hQ := hQ.keep F0
  clear q0 q1 q2 F0
  obtain ⟨t, ht⟩ : ∃ t, t = w.heap.size := ⟨_, rfl⟩
  rw [← ht] at A0
  generalize w.alloc (.cells #[.int .i64 5, .int .i64 pl, .int .i64 src, .string d] 46) = W at A0 hB hI hR hP hQ ⊢
  rw [← ht]
  clear ht
  have htb : t ≠ bb := at_types A0 hB.cb (by decide)
  have hil : (i : Int) < 4 := by omega
  have hkl : (k : Int) < 4 := by omega
  cases hc : st i with
  | none =>
    have q0 := A0.cell 0
    have c4 := hB.cb.cell (4 + i)
    rw [bcells_ref st i hi, hc] at c4
    change _ = some (Value.pointer none) at c4
    have hsz4 : (Tryd.prog.info? 46).map (·.size) = some (#[Value.int .i64 5, .int .i64 pl, .int .i64 src, .string d] : Array Value).size := by kernel_rfl
    go_wp2_with (first
      | refine wpList_load_row rfl _ _ rfl _ rfl _ _ _ _ A0.out Tryd.underlying46 rfl hsz4 ?_
      | (go_at_call 36; refine (none_any 5 pl src d _).mono ?_; rintro e w9 ⟨rfl, f9⟩)
      | fail)
    go_ret
    exact ⟨rfl, st, hB.keep f9⟩
  | some c =>
    have q0 := A0.cell 0
    have kk := hB.ok i hi c hc
    have hcell : ∀ w', Fr [] W w' → w'.cell? ⟨bb, 4 + i, none⟩ = some (.pointer (some ⟨c.r, 0, none⟩)) ∧ w'.cell? ⟨bb, i, none⟩ = some (.pointer (some ⟨c.hb, 0, none⟩)) := fun w' f => by
      have hB' := hB.keep f
      have h1 := hB'.cb.cell (4 + i)
      have h2 := hB'.cb.cell i
      rw [bcells_ref st i hi, hc] at h1
      rw [bcells_own st i hi, hc] at h2
      exact ⟨h1, h2⟩
    obtain ⟨c4, c0⟩ := hcell W (Fr.refl _ _)

    have cO := fun w' (h : Hold w' c.hb (wordsOf c.F c.R.data.toList) (restOf c.R.data.toList) (c.A + c.R.size)) (h2 : Roots w') => state_any _ _ _ c.hb (Nat.le_trans kk.sz (by decide)) w' h
    have cR := fun w' (h : RH w' c.r c.F c.A c.R) (h1 : Powers w') (h2 : RefRoots w') => rstateh_any c.r c.F c.A c.R kk.f8 kk.sz w' h1 h2 h
    obtain ⟨Y, hY⟩ : ∃ Y : ByteArray, Y = ⟨(stateOf (wordsOf c.F c.R.data.toList) (restOf c.R.data.toList) (c.A + c.R.size)).toArray⟩ := ⟨_, rfl⟩
    rw [← hY] at cO cR
    clear hY
    obtain ⟨G, hG⟩ : ∃ G : World → Prop, G = fun w' => Fr [] W w' := ⟨_, rfl⟩
    have gW : ∀ w', G w' ↔ Fr [] W w' := fun w' => by rw [hG]
    clear hG
    have qo : ∀ x : Gw G, x.w.cell? ⟨bb, i, none⟩ = some (.pointer (some ⟨c.hb, 0, none⟩)) := fun x => (hcell _ ((gW _).1 x.ok)).2
    have qr : ∀ x : Gw G, x.w.cell? ⟨bb, 4 + i, none⟩ = some (.pointer (some ⟨c.r, 0, none⟩)) := fun x => (hcell _ ((gW _).1 x.ok)).1
    have cO' := fun x : Gw G => cO x.w (kk.hold.keep ((gW _).1 x.ok) (by simp)) (hR.keep ((gW _).1 x.ok) (by simp))
    have cR' := fun x : Gw G => cR x.w (((gW _).1 x.ok).keep kk.rh (by simp)) (hP.keep ((gW _).1 x.ok)) (hQ.keep ((gW _).1 x.ok))
    have g1 : ∀ (x : Gw G) w', Fr [] x.w w' → G w' := fun x w' f => (gW _).2 (((gW _).1 x.ok).trans f)
    have gz : G W.drew := (gW _).2 (Fr.drew _ _)
    have ne : Nonempty (Gw G) := ⟨⟨_, gz⟩⟩
    clear cO cR
    go_upto_region 26 with fail
    clear c0 c4 hcell
    refine wp_region_gw G (by kernel_rfl) (by kernel_rfl) gz ?_
    repeat (go_big_quiet_step (first
      | (go_at_call 20; exact gw_call (cO' _) (g1 _))
      | (go_at_call 35; exact gw_call (cR' _) (g1 _))))
    refine wpQuiet_nil ?_
    rintro _ ⟨x, rfl⟩
    have f := (gW _).1 x.ok
    go_wp2_with fail
    go_ret
    exact ⟨rfl, st, hB.keep f⟩

set_option maxRecDepth 100000 in
set_option maxHeartbeats 4000000 in
theorem plays_write (w0 w : World) (bb : Nat) (st : Nat → Option Pc) (hB : Bench w0 w bb st) (pl src : Int) (d : ByteArray) (hpl : -9223372036854775808 ≤ pl ∧ pl ≤ 9223372036854775807) (hsr : -9223372036854775808 ≤ src ∧ src ≤ 9223372036854775807) (hd : d.size ≤ 140737488351232) (hI : First w) (hR : Roots w) (hP : Powers w) (hQ : RefRoots w) :
    Calls Tryd.prog 18 #[.pointer (some ⟨bb, 0, none⟩), .agg #[.int .i64 2, .int .i64 pl, .int .i64 src, .string d]] w (Played w0 bb) := by
  have cp := fun w => place_any pl hpl w
  have cs := fun w => place_any src hsr w
  have A0 := At.alloc_new w 46 #[.int .i64 2, .int .i64 pl, .int .i64 src, .string d]
  have F0 := Fr.alloc [] w (.cells #[.int .i64 2, .int .i64 pl, .int .i64 src, .string d] 46)
  have q0 := A0.cell 0
  have q1 := A0.cell 1
  have q2 := A0.cell 2
  go_enter Tryd.func18, Tryd.ntmps18
  go_upto_region 4 with (first
    | (go_at_call 32; refine (cp _).mono ?_; clear cp; rintro e w8 ⟨i, hi, rfl, rfl⟩)
    | (go_at_call 32; refine (cs _).mono ?_; clear cs; rintro e w8 ⟨k, hk, rfl, rfl⟩)
    | fail)
  replace hB := hB.keep F0
  replace hI := hI.keep F0
  replace hR := hR.keep F0 (by simp)
  replace hP := hP.keep F0
  replace hQ := hQ.keep F0
  clear q0 q1 q2 F0
  obtain ⟨t, ht⟩ : ∃ t, t = w.heap.size := ⟨_, rfl⟩
  rw [← ht] at A0
  generalize w.alloc (.cells #[.int .i64 2, .int .i64 pl, .int .i64 src, .string d] 46) = W at A0 hB hI hR hP hQ ⊢
  rw [← ht]
  clear ht
  have htb : t ≠ bb := at_types A0 hB.cb (by decide)
  have hil : (i : Int) < 4 := by omega
  have hkl : (k : Int) < 4 := by omega
  cases hc : st i with
  | none =>
    have q0 := A0.cell 0
    have c4 := hB.cb.cell (4 + i)
    rw [bcells_ref st i hi, hc] at c4
    change _ = some (Value.pointer none) at c4
    have hsz4 : (Tryd.prog.info? 46).map (·.size) = some (#[Value.int .i64 2, .int .i64 pl, .int .i64 src, .string d] : Array Value).size := by kernel_rfl
    go_wp2_with (first
      | refine wpList_load_row rfl _ _ rfl _ rfl _ _ _ _ A0.out Tryd.underlying46 rfl hsz4 ?_
      | (go_at_call 36; refine (none_any 2 pl src d _).mono ?_; rintro e w9 ⟨rfl, f9⟩)
      | fail)
    go_ret
    exact ⟨rfl, st, hB.keep f9⟩
  | some c =>
    have q0 := A0.cell 0
    have kk := hB.ok i hi c hc
    have hcell : ∀ w', Fr [] W w' → w'.cell? ⟨bb, 4 + i, none⟩ = some (.pointer (some ⟨c.r, 0, none⟩)) ∧ w'.cell? ⟨bb, i, none⟩ = some (.pointer (some ⟨c.hb, 0, none⟩)) := fun w' f => by
      have hB' := hB.keep f
      have h1 := hB'.cb.cell (4 + i)
      have h2 := hB'.cb.cell i
      rw [bcells_ref st i hi, hc] at h1
      rw [bcells_own st i hi, hc] at h2
      exact ⟨h1, h2⟩
    obtain ⟨c4, c0⟩ := hcell W (Fr.refl _ _)

    have q3 := A0.cell 3
    obtain ⟨v, R2, hsz2, cO, cR⟩ := wr2 w0 c d hd kk.sz
    have hne := hB.ne hi hc
    have hto : t ≠ c.hb := by obtain ⟨cs, hA⟩ := kk.hold.at_; exact at_types A0 hA (by decide)
    have htr : t ≠ c.r := at_types A0 kk.rh (by decide)
    have hor : c.hb ≠ c.r := by obtain ⟨cs, hA⟩ := kk.hold.at_; exact at_types hA kk.rh (by decide)
    go_upto_region 19 with fail
    refine wp_region_until (fun w' => w'.cell? ⟨bb, i, none⟩ = some (.pointer (some ⟨c.hb, 0, none⟩)) ∧ w'.cell? ⟨t, 3, none⟩ = some (.string d)) (fun _ => True) 1000 (by rfl) ?_
    have hT : True := trivial
    have s0 : _ ∧ _ := ⟨(hcell _ (Fr.drew _ _)).2, A0.drew.cell 3⟩
    refine until_s0 0 (v := ?_) rfl (by kernel_rfl) (fun _ _ _ h => h) (Or.inl ⟨by rfl, ?_⟩) (by assumption) (fun h => by first | assumption | exact absurd (h : true = false) (by decide)) ?_
    rotate_left
    · intro w hSw; (try dsimp only at hSw); (try go_simp); (try with_reducible rfl)
    try simp only [Act.put, List.setIfInBounds_toArray, List.set_cons_zero, List.set_cons_succ]
    refine until_s0 1 (v := ?_) rfl (by kernel_rfl) (fun _ _ _ h => h) (Or.inl ⟨by rfl, ?_⟩) (by assumption) (fun h => by first | assumption | exact absurd (h : true = false) (by decide)) ?_
    rotate_left
    · intro w hSw; (try dsimp only at hSw); (try go_simp); (try with_reducible rfl)
    try simp only [Act.put, List.setIfInBounds_toArray, List.set_cons_zero, List.set_cons_succ]
    refine until_s0 2 (v := ?_) rfl (by kernel_rfl) (fun _ _ _ h => h) (Or.inl ⟨by rfl, ?_⟩) (by assumption) (fun h => by first | assumption | exact absurd (h : true = false) (by decide)) ?_
    rotate_left
    · intro w hSw; (try dsimp only at hSw); (try go_simp); (try with_reducible rfl)
    try simp only [Act.put, List.setIfInBounds_toArray, List.set_cons_zero, List.set_cons_succ]
    refine until_s0 3 (v := ?_) rfl (by kernel_rfl) (fun _ _ _ h => h) (Or.inl ⟨by rfl, ?_⟩) (by assumption) (fun h => by first | assumption | exact absurd (h : true = false) (by decide)) ?_
    rotate_left
    · intro w hSw; (try dsimp only at hSw); (try go_simp); (try with_reducible rfl)
    try simp only [Act.put, List.setIfInBounds_toArray, List.set_cons_zero, List.set_cons_succ]
    refine until_s0 4 (v := ?_) rfl (by kernel_rfl) (fun _ _ _ h => h) (Or.inl ⟨by rfl, ?_⟩) (by assumption) (fun h => by first | assumption | exact absurd (h : true = false) (by decide)) ?_
    rotate_left
    · intro w hSw; (try dsimp only at hSw); (try go_simp); (try with_reducible rfl)
    try simp only [Act.put, List.setIfInBounds_toArray, List.set_cons_zero, List.set_cons_succ]
    refine until_s0 5 (v := ?_) rfl (by kernel_rfl) (fun _ _ _ h => h) (Or.inl ⟨by rfl, ?_⟩) (by assumption) (fun h => by first | assumption | exact absurd (h : true = false) (by decide)) ?_
    rotate_left
    · intro w hSw; (try dsimp only at hSw); (try go_simp); (try with_reducible rfl)
    try simp only [Act.put, List.setIfInBounds_toArray, List.set_cons_zero, List.set_cons_succ]
    refine until_s0 6 (v := ?_) rfl (by kernel_rfl) (fun _ _ _ h => h) (Or.inl ⟨by rfl, ?_⟩) (by assumption) (fun h => by first | assumption | exact absurd (h : true = false) (by decide)) ?_
    rotate_left
    · intro w hSw; (try dsimp only at hSw); (try go_simp); (try with_reducible rfl)
    try simp only [Act.put, List.setIfInBounds_toArray, List.set_cons_zero, List.set_cons_succ]
    refine until_s0 7 (v := ?_) rfl (by kernel_rfl) (fun _ _ _ h => h) (Or.inl ⟨by rfl, ?_⟩) (by assumption) (fun h => by first | assumption | exact absurd (h : true = false) (by decide)) ?_
    rotate_left
    · intro w hSw; (try dsimp only at hSw); (try go_simp); (try with_reducible rfl)
    try simp only [Act.put, List.setIfInBounds_toArray, List.set_cons_zero, List.set_cons_succ]
    refine until_sole 8 rfl (by kernel_rfl) (by rfl) ?_
    intro K' hK
    go_simp
    go_at_call 23
    refine (cO _ (hR.keep (Fr.drew [] _) (by simp)) (kk.keep (Fr.drew [] _) (by simp) (by simp))).mono ?_
    rintro _ w1 ⟨rfl, h1, f1⟩
    go_wp2_with fail
    replace f1 : Fr [c.hb] W w1 := (Fr.drew _ W).trans f1
    have A1 := f1.keep A0 (by simp; exact hto)
    have B1 := f1.keep hB.cb (by simp; exact Ne.symm hne.1)
    have x0 := B1.cell i
    have x4 := B1.cell (4 + i)
    rw [bcells_own st i hi, hc] at x0
    rw [bcells_ref st i hi, hc] at x4
    have s1 : _ ∧ _ := ⟨x0, A1.cell 3⟩
    refine hK _ _ (s1) (fun _ => trivial) ?_
    clear hK

    clear s0
    refine until_s0 9 (v := ?_) rfl (by kernel_rfl) (fun _ _ _ h => h) (Or.inl ⟨by rfl, ?_⟩) (by assumption) (fun h => by first | assumption | exact absurd (h : true = false) (by decide)) ?_
    rotate_left
    · intro w hSw; (try dsimp only at hSw); (try go_simp); (try with_reducible rfl)
    try simp only [Act.put, List.setIfInBounds_toArray, List.set_cons_zero, List.set_cons_succ]
    refine until_done (by kernel_rfl) ?_ _
    have rh1 : RH w1 c.r c.F c.A c.R := f1.keep kk.rh (by simp; exact Ne.symm hor)
    clear c0 c4 q3
    go_upto_region 20 with fail
    refine wp_region_until (fun w' => w'.cell? ⟨bb, 4 + i, none⟩ = some (.pointer (some ⟨c.r, 0, none⟩)) ∧ w'.cell? ⟨t, 3, none⟩ = some (.string d)) (fun _ => True) 1000 (by rfl) ?_
    have s2 : _ ∧ _ := ⟨(show w1.drew.cell? ⟨bb, 4 + i, none⟩ = some (.pointer (some ⟨c.r, 0, none⟩)) from x4), A1.drew.cell 3⟩
    clear s1
    refine until_s0 0 (v := ?_) rfl (by kernel_rfl) (fun _ _ _ h => h) (Or.inl ⟨by rfl, ?_⟩) (by assumption) (fun h => by first | assumption | exact absurd (h : true = false) (by decide)) ?_
    rotate_left
    · intro w hSw; (try dsimp only at hSw); (try go_simp); (try with_reducible rfl)
    try simp only [Act.put, List.setIfInBounds_toArray, List.set_cons_zero, List.set_cons_succ]
    refine until_s0 2 (v := ?_) rfl (by kernel_rfl) (fun _ _ _ h => h) (Or.inl ⟨by rfl, ?_⟩) (by assumption) (fun h => by first | assumption | exact absurd (h : true = false) (by decide)) ?_
    rotate_left
    · intro w hSw; (try dsimp only at hSw); (try go_simp); (try with_reducible rfl)
    try simp only [Act.put, List.setIfInBounds_toArray, List.set_cons_zero, List.set_cons_succ]
    refine until_s0 3 (v := ?_) rfl (by kernel_rfl) (fun _ _ _ h => h) (Or.inl ⟨by rfl, ?_⟩) (by assumption) (fun h => by first | assumption | exact absurd (h : true = false) (by decide)) ?_
    rotate_left
    · intro w hSw; (try dsimp only at hSw); (try go_simp); (try with_reducible rfl)
    try simp only [Act.put, List.setIfInBounds_toArray, List.set_cons_zero, List.set_cons_succ]
    refine until_s0 4 (v := ?_) rfl (by kernel_rfl) (fun _ _ _ h => h) (Or.inl ⟨by rfl, ?_⟩) (by assumption) (fun h => by first | assumption | exact absurd (h : true = false) (by decide)) ?_
    rotate_left
    · intro w hSw; (try dsimp only at hSw); (try go_simp); (try with_reducible rfl)
    try simp only [Act.put, List.setIfInBounds_toArray, List.set_cons_zero, List.set_cons_succ]
    refine until_s0 5 (v := ?_) rfl (by kernel_rfl) (fun _ _ _ h => h) (Or.inl ⟨by rfl, ?_⟩) (by assumption) (fun h => by first | assumption | exact absurd (h : true = false) (by decide)) ?_
    rotate_left
    · intro w hSw; (try dsimp only at hSw); (try go_simp); (try with_reducible rfl)
    try simp only [Act.put, List.setIfInBounds_toArray, List.set_cons_zero, List.set_cons_succ]
    refine until_s0 6 (v := ?_) rfl (by kernel_rfl) (fun _ _ _ h => h) (Or.inl ⟨by rfl, ?_⟩) (by assumption) (fun h => by first | assumption | exact absurd (h : true = false) (by decide)) ?_
    rotate_left
    · intro w hSw; (try dsimp only at hSw); (try go_simp); (try with_reducible rfl)
    try simp only [Act.put, List.setIfInBounds_toArray, List.set_cons_zero, List.set_cons_succ]
    refine until_s0 7 (v := ?_) rfl (by kernel_rfl) (fun _ _ _ h => h) (Or.inl ⟨by rfl, ?_⟩) (by assumption) (fun h => by first | assumption | exact absurd (h : true = false) (by decide)) ?_
    rotate_left
    · intro w hSw; (try dsimp only at hSw); (try go_simp); (try with_reducible rfl)
    try simp only [Act.put, List.setIfInBounds_toArray, List.set_cons_zero, List.set_cons_succ]
    refine until_s0 8 (v := ?_) rfl (by kernel_rfl) (fun _ _ _ h => h) (Or.inl ⟨by rfl, ?_⟩) (by assumption) (fun h => by first | assumption | exact absurd (h : true = false) (by decide)) ?_
    rotate_left
    · intro w hSw; (try dsimp only at hSw); (try go_simp); (try with_reducible rfl)
    try simp only [Act.put, List.setIfInBounds_toArray, List.set_cons_zero, List.set_cons_succ]
    refine until_s0 9 (v := ?_) rfl (by kernel_rfl) (fun _ _ _ h => h) (Or.inl ⟨by rfl, ?_⟩) (by assumption) (fun h => by first | assumption | exact absurd (h : true = false) (by decide)) ?_
    rotate_left
    · intro w hSw; (try dsimp only at hSw); (try go_simp); (try with_reducible rfl)
    try simp only [Act.put, List.setIfInBounds_toArray, List.set_cons_zero, List.set_cons_succ]
    refine until_sole 1 rfl (by kernel_rfl) (by rfl) ?_
    intro K' hK
    go_simp
    go_at_call 17
    refine (num2_any _ _).mono ?_
    rintro _ w3 ⟨rfl, rfl⟩
    go_wp2_with fail
    refine hK _ _ (s2) (fun _ => trivial) ?_
    clear hK
    refine until_sole 10 rfl (by kernel_rfl) (by rfl) ?_
    intro K' hK
    go_simp
    go_at_call 37
    refine (cR _ kk.f8 (Fr.keep (Fr.drew [] _) rh1 (by simp))).mono ?_
    rintro _ w2 ⟨rfl, h2, f2⟩
    go_wp2_with fail
    replace f2 : Fr [c.r] w1 w2 := (Fr.drew _ w1).trans f2
    have B2 := f2.keep B1 (by simp; exact Ne.symm hne.2)
    have y4 := B2.cell (4 + i)
    rw [bcells_ref st i hi, hc] at y4
    have s3 : _ ∧ _ := ⟨y4, (f2.keep A1 (by simp; exact htr)).cell 3⟩
    refine hK _ _ (s3) (fun _ => trivial) ?_
    clear hK
    clear s2
    refine until_s0 11 (v := ?_) rfl (by kernel_rfl) (fun _ _ _ h => h) (Or.inl ⟨by rfl, ?_⟩) (by assumption) (fun h => by first | assumption | exact absurd (h : true = false) (by decide)) ?_
    rotate_left
    · intro w hSw; (try dsimp only at hSw); (try go_simp); (try with_reducible rfl)
    try simp only [Act.put, List.setIfInBounds_toArray, List.set_cons_zero, List.set_cons_succ]
    refine until_s0 12 (v := ?_) rfl (by kernel_rfl) (fun _ _ _ h => h) (Or.inl ⟨by rfl, ?_⟩) (by assumption) (fun h => by first | assumption | exact absurd (h : true = false) (by decide)) ?_
    rotate_left
    · intro w hSw; (try dsimp only at hSw); (try go_simp); (try with_reducible rfl)
    try simp only [Act.put, List.setIfInBounds_toArray, List.set_cons_zero, List.set_cons_succ]
    refine until_done (by kernel_rfl) ?_ _
    clear x0 x4 y4 s3
    go_wp2_with fail
    go_ret
    refine ⟨rfl, upd st i (some ⟨c.hb, c.r, c.F, c.A, R2⟩), ?_⟩
    exact hB.turn i hi c _ hc rfl rfl ((f1.mono (by simp)).trans (f2.mono (by simp))) ⟨h1.keep f2 (by simp; exact hor), h2, kk.f8, kk.a64, hsz2, kk.nh, kk.nr⟩

set_option maxRecDepth 100000 in
set_option maxHeartbeats 4000000 in
theorem plays_other (w0 w : World) (bb : Nat) (st : Nat → Option Pc) (hB : Bench w0 w bb st) (kind : Int) (e1 : ¬ kind = 1) (e2 : ¬ kind = 2) (e3 : ¬ kind = 3) (e4 : ¬ kind = 4) (e5 : ¬ kind = 5) (e6 : ¬ kind = 6) (e7 : ¬ kind = 7) (pl src : Int) (d : ByteArray) (hpl : -9223372036854775808 ≤ pl ∧ pl ≤ 9223372036854775807) (hsr : -9223372036854775808 ≤ src ∧ src ≤ 9223372036854775807) (hd : d.size ≤ 140737488351232) (hI : First w) (hR : Roots w) (hP : Powers w) (hQ : RefRoots w) :
    Calls Tryd.prog 18 #[.pointer (some ⟨bb, 0, none⟩), .agg #[.int .i64 kind, .int .i64 pl, .int .i64 src, .string d]] w (Played w0 bb) := by
  have cp := fun w => place_any pl hpl w
  have cs := fun w => place_any src hsr w
  have A0 := At.alloc_new w 46 #[.int .i64 kind, .int .i64 pl, .int .i64 src, .string d]
  have F0 := Fr.alloc [] w (.cells #[.int .i64 kind, .int .i64 pl, .int .i64 src, .string d] 46)
  have q0 := A0.cell 0
  have q1 := A0.cell 1
  have q2 := A0.cell 2
  go_enter Tryd.func18, Tryd.ntmps18
  go_upto_region 4 with (first
    | (go_at_call 32; refine (cp _).mono ?_; clear cp; rintro e w8 ⟨i, hi, rfl, rfl⟩)
    | (go_at_call 32; refine (cs _).mono ?_; clear cs; rintro e w8 ⟨k, hk, rfl, rfl⟩)
    | fail)
  replace hB := hB.keep F0
  replace hI := hI.keep F0
  replace hR := hR.keep F0 (by simp)
  replace hP := hP.keep F0
  replace hQ := hQ.keep F0
  clear q0 q1 q2 F0
  obtain ⟨t, ht⟩ : ∃ t, t = w.heap.size := ⟨_, rfl⟩
  rw [← ht] at A0
  generalize w.alloc (.cells #[.int .i64 kind, .int .i64 pl, .int .i64 src, .string d] 46) = W at A0 hB hI hR hP hQ ⊢
  rw [← ht]
  clear ht
  have htb : t ≠ bb := at_types A0 hB.cb (by decide)
  have hil : (i : Int) < 4 := by omega
  have hkl : (k : Int) < 4 := by omega
  cases hc : st i with
  | none =>
    have q0 := A0.cell 0
    have c4 := hB.cb.cell (4 + i)
    rw [bcells_ref st i hi, hc] at c4
    change _ = some (Value.pointer none) at c4
    have hsz4 : (Tryd.prog.info? 46).map (·.size) = some (#[Value.int .i64 kind, .int .i64 pl, .int .i64 src, .string d] : Array Value).size := by kernel_rfl
    go_wp2_with (first
      | refine wpList_load_row rfl _ _ rfl _ rfl _ _ _ _ A0.out Tryd.underlying46 rfl hsz4 ?_
      | (go_at_call 36; refine (none_any kind pl src d _).mono ?_; rintro e w9 ⟨rfl, f9⟩)
      | fail)
    go_ret
    exact ⟨rfl, st, hB.keep f9⟩
  | some c =>
    have q0 := A0.cell 0
    have kk := hB.ok i hi c hc
    have hcell : ∀ w', Fr [] W w' → w'.cell? ⟨bb, 4 + i, none⟩ = some (.pointer (some ⟨c.r, 0, none⟩)) ∧ w'.cell? ⟨bb, i, none⟩ = some (.pointer (some ⟨c.hb, 0, none⟩)) := fun w' f => by
      have hB' := hB.keep f
      have h1 := hB'.cb.cell (4 + i)
      have h2 := hB'.cb.cell i
      rw [bcells_ref st i hi, hc] at h1
      rw [bcells_own st i hi, hc] at h2
      exact ⟨h1, h2⟩
    obtain ⟨c4, c0⟩ := hcell W (Fr.refl _ _)

    go_wp2_with fail
    go_ret
    exact ⟨rfl, st, hB⟩
end Go.Proofs.YtkagmoaapampgaaDoor
