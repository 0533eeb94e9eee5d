/- The pads' sum, and HMAC, of the program. -/
import Derived.Test.YtbpaknnnkmjgjaaDoorKdfPads
import Derived.Test.YtbpaknnnkmjgjaaDoorUntil
namespace Go.Proofs.YtbpaknnnkmjgjaaDoor
open Go.RowKit Go.Lib Go.Joins Base
set_option linter.unusedVariables false
set_option linter.unusedSimpArgs false

/-- Texts as cells. -/
def tcells (ps : List ByteArray) : List Value := ps.map Value.string
theorem tcells_len (ps : List ByteArray) : (tcells ps).length = ps.length := by simp [tcells]
theorem tcells_one (ps : List ByteArray) : ∀ v ∈ tcells ps, v.oneCell' = true := by
  intro v hv
  obtain ⟨x, _, rfl⟩ := List.mem_map.1 hv; rfl
theorem Texts.ofOwn {w : World} {base g cap n : Nat} {e : TypeId} {ps : List ByteArray} (h : w.ownsRow base e 1 (.slice (some ⟨g, 0, none⟩) n cap) n (tcells ps)) : Texts w (some ⟨g, 0, none⟩) ps := by
  intro j s hj
  have hl : ps.length = n := by have := h.1; rw [tcells_len] at this; omega
  have hjl : j < ps.length := by
    rcases Nat.lt_or_ge j ps.length with h' | h'
    · exact h'
    · rw [List.getElem?_eq_none h'] at hj; cases hj
  refine ⟨g, 0, rfl, ?_⟩
  rw [Nat.zero_add, h.cellAt j (by omega)]
  simp [tcells, hj]
theorem joinL_cons (a : ByteArray) (ps : List ByteArray) : joinL (a :: ps) = a.data.toList ++ joinL ps := by simp [joinL]
theorem joinL_two (a b : ByteArray) : joinL [a, b] = a.data.toList ++ b.data.toList := by simp [joinL]

set_option maxRecDepth 100000 in
set_option maxHeartbeats 1000000 in
theorem psum_any (a b : ByteArray) (ps : List ByteArray) (ad : Option Addr) (cap : Nat) (had : (∃ g o, ad = some ⟨g, o, none⟩) ∨ (ad = none ∧ ps = [] ∧ cap = 0)) (ha : a.size = 64) (hb : b.size = 64)
    (hj : (joinL ps).length ≤ 576460752303423488) (hp16 : ps.length * 16 ≤ 140737488351232) (w : World) (hI : First w) (hR : Roots w) (hp : Texts w ad ps) :
    Calls Tryd.prog 39 #[.agg #[.string a, .string b], .slice ad ps.length cap] w fun e w' => e = .returned (.string ⟨(shaL (b.data.toList ++ shaL (a.data.toList ++ joinL ps))).toArray⟩) ∧ Fr [] w w' := by
  have hi5 : (Tryd.prog.info? 9).map (fun i => (i.zero, i.size, i.bytes)) = some (some (.string ⟨#[]⟩), 1, 16) := by kernel_rfl
  obtain ⟨iI, hiI, hz0, hz1, hz2⟩ := info_parts hi5
  have hal : a.data.toList.length = 64 := by simpa using ha
  have hbl : b.data.toList.length = 64 := by simpa using hb
  have A0 := At.alloc_new w 63 #[.string a, .string b]
  have F0 := Fr.alloc [] w (.cells #[.string a, .string b] 63)
  have o0 : ((w.alloc (.cells #[.string a, .string b] 63)).alloc (.cells #[.string a] 9)).ownsRow w.heap.size 9 1 (.slice (some ⟨w.heap.size + 1, 0, none⟩) 1 1) 1 (tcells [a]) :=
    ⟨rfl, .inr ⟨w.heap.size + 1, 1, #[.string a], rfl, by omega, by have := heap_alloc_new (w.alloc (.cells #[.string a, .string b] 63)) (.cells #[.string a] 9); simpa using this, by omega, by simp [maxLen], rfl, rfl⟩⟩
  have A1 := A0.alloc (.cells #[.string a] 9)
  have F1 := F0.trans (Fr.alloc [] _ (.cells #[.string a] 9))
  obtain ⟨X, hX⟩ : ∃ X, X = shaL (a.data.toList ++ joinL ps) := ⟨_, rfl⟩
  have hXl : X.length = 32 := by rw [hX, shaL_len]
  have cA : ∀ w g c, First w → Roots w → Texts w (some ⟨g, 0, none⟩) (a :: ps) → Calls Tryd.prog 16 #[.slice (some ⟨g, 0, none⟩) (1 + ps.length) c] w fun e w' => e = .returned (.string ⟨X.toArray⟩) ∧ Fr [] w w' := fun w g c h1 h2 h3 => by
    have := sum_any (a :: ps) (some ⟨g, 0, none⟩) c (by rw [joinL_cons, List.length_append]; omega) (by simp; omega) w h1 h2 h3
    rw [joinL_cons, ← hX, List.length_cons, Nat.add_comm] at this
    exact this
  have cB : ∀ w g, First w → Roots w → At w g 9 [.string b, .string ⟨X.toArray⟩] → Calls Tryd.prog 16 #[.slice (some ⟨g, 0, none⟩) 2 2] w fun e w' => e = .returned (.string ⟨(shaL (b.data.toList ++ X)).toArray⟩) ∧ Fr [] w w' := fun w g h1 h2 h3 => by
    have e : joinL [b, ⟨X.toArray⟩] = b.data.toList ++ X := by rw [joinL_two]
    have := sum_any [b, ⟨X.toArray⟩] (some ⟨g, 0, none⟩) 2 (by rw [e, List.length_append]; omega) (by simp) w h1 h2 (Texts.ofAt h3)
    rw [e] at this
    exact this
  rw [← hX]
  have HX := Lib.hid (And.intro hX hXl)
  clear hX hXl hal hbl ha hb
  generalize (⟨X.toArray⟩ : ByteArray) = xs at cA cB
  obtain ⟨w1, hw1⟩ : ∃ w1, w1 = (w.alloc (.cells #[.string a, .string b] 63)).alloc (.cells #[.string a] 9) := ⟨_, rfl⟩
  rcases had with ⟨g, o, rfl⟩ | ⟨rfl, rfl, rfl⟩
  · have hnews : ∀ j u, (tcells ps)[j]? = some u → ((w.alloc (.cells #[.string a, .string b] 63)).alloc (.cells #[.string a] 9)).cell? ((⟨g, o, none⟩ : Addr).add j) = some u := by
      intro j u hju
      rw [tcells, List.getElem?_map] at hju
      cases hpj : ps[j]? with
      | none => rw [hpj] at hju; cases hju
      | some s =>
        rw [hpj] at hju
        injection hju with hju
        obtain ⟨g', o', e, hc⟩ := (hp.keep F1) j s hpj
        injection e with e
        injection e with e1 e2
        subst e1 e2
        rw [addr_add', hc, hju]
    go_enter Tryd.func39, Tryd.ntmps39
    go_wp2_with (first
      | (at_builtin; refine wpList_append_own _ rfl _ _ _ rfl w.heap.size 9 iI (.string ⟨#[]⟩) 1 16 Tryd.underlying22 hiI hz0 hz1 hz2 rfl (by decide) _ 1 _ rfl o0 ⟨g, o, none⟩ ps.length cap (tcells ps) rfl (by simp [tcells]) hnews (tcells_one _) (by simp [maxLen]; omega) (by omega) (by simp; omega) ?_; intro v2 w2 o2 gr2 _)
      | fail)
    have hF : Fr [] w w2 := Fr.ofBelow ((F1.below).grown gr2 (by simp; omega) (by intro x hx; cases hx; exact Nat.le_succ _))
    have A2 : At w2 w.heap.size 63 [.string a, .string b] := (Fr.ofGrown gr2 (S := [w.heap.size + 1]) (by intro k hk; cases hk; simp)).keep A1 (by simp)
    rcases ownsRow_forms o2 with ⟨rfl, h1⟩ | ⟨g2, c2, rfl⟩
    · omega
    have hT2 : Texts w2 (some ⟨g2, 0, none⟩) (a :: ps) := Texts.ofOwn o2
    go_wp2_with fail
    refine wp_region_until (fun w' => At w' w.heap.size 63 [.string a, .string b] ∧ w'.cell? ⟨w.heap.size, 1, none⟩ = some (.string b)) (fun _ => True) 1000 (by rfl) ?_
    have hT : True := trivial
    have s0 : _ ∧ _ := ⟨A2.drew, A2.drew.cell 1⟩
    refine until_s0 0 (v := ?_) rfl (by kernel_rfl) (fun _ _ _ h => h) (Or.inl ⟨by rfl, ?_⟩) (by assumption) (fun h => by first | assumption | exact absurd (h : true = false) (by decide)) ?_
    rotate_left
    · intro w hSw; (try dsimp only at hSw); (try go_simp); (try with_reducible rfl)
    try simp only [Act.put, List.setIfInBounds_toArray, List.set_cons_zero, List.set_cons_succ]
    refine until_s0 1 (v := ?_) rfl (by kernel_rfl) (fun _ _ _ h => h) (Or.inl ⟨by rfl, ?_⟩) (by assumption) (fun h => by first | assumption | exact absurd (h : true = false) (by decide)) ?_
    rotate_left
    · intro w hSw; (try dsimp only at hSw); (try go_simp); (try with_reducible rfl)
    try simp only [Act.put, List.setIfInBounds_toArray, List.set_cons_zero, List.set_cons_succ]
    refine until_s0 2 (v := ?_) rfl (by kernel_rfl) (fun _ _ _ h => h) (Or.inl ⟨by rfl, ?_⟩) (by assumption) (fun h => by first | assumption | exact absurd (h : true = false) (by decide)) ?_
    rotate_left
    · intro w hSw; (try dsimp only at hSw); (try go_simp); (try with_reducible rfl)
    try simp only [Act.put, List.setIfInBounds_toArray, List.set_cons_zero, List.set_cons_succ]
    refine until_sole 3 rfl (by kernel_rfl) (by rfl) ?_
    intro K' hK
    go_simp
    go_at_call 16
    refine (cA _ _ _ (hI.keep (hF.trans (Fr.drew _ _))) (hR.keep (hF.trans (Fr.drew [] _)) (by simp)) (hT2.keep (Fr.drew _ _))).mono ?_
    rintro _ w3 ⟨rfl, f3⟩
    go_wp2_with fail
    have A3 := f3.keep A2.drew (by simp)
    have F3 := hF.trans ((Fr.drew [] w2).trans f3)
    have s3 : _ ∧ _ := ⟨A3, A3.cell 1⟩
    refine hK _ _ s3 (fun _ => trivial) ?_
    clear hK s0
    skip
    refine until_sole 4 rfl (by kernel_rfl) (by rfl) ?_
    intro K' hK
    go_simp
    have A4 := A3.alloc (.cells #[.string b, .string xs] 9)
    have s4 : _ ∧ _ := ⟨A4, A4.cell 1⟩
    refine hK _ _ s4 (fun _ => trivial) ?_
    clear hK s3
    skip
    refine until_sole 5 rfl (by kernel_rfl) (by rfl) ?_
    intro K' hK
    go_simp
    go_at_call 16
    refine (cB _ _ (hI.keep (F3.trans (Fr.alloc _ _ _))) (hR.keep (F3.trans (Fr.alloc [] _ _)) (by simp)) (At.alloc_new _ _ _)).mono ?_
    rintro _ w4 ⟨rfl, f4⟩
    go_wp2_with fail
    have A5 := f4.keep A4 (by simp)
    have s5 : _ ∧ _ := ⟨A5, A5.cell 1⟩
    refine hK _ _ s5 (fun _ => trivial) ?_
    clear hK s4
    refine until_s0 6 (v := ?_) rfl (by kernel_rfl) (fun _ _ _ h => h) (Or.inl ⟨by rfl, ?_⟩) (by assumption) (fun h => by first | assumption | exact absurd (h : true = false) (by decide)) ?_
    rotate_left
    · intro w hSw; (try dsimp only at hSw); (try go_simp); (try with_reducible rfl)
    try simp only [Act.put, List.setIfInBounds_toArray, List.set_cons_zero, List.set_cons_succ]
    refine until_done (by kernel_rfl) ?_ _
    go_wp2_with fail
    go_ret
    exact ⟨rfl, (F3.trans (Fr.alloc _ _ _)).trans f4⟩
  · have o1 := o0
    go_enter Tryd.func39, Tryd.ntmps39
    go_wp2_with (first
      | (at_builtin; refine wpList_append_own_none rfl _ _ _ rfl w.heap.size 9 iI 1 Tryd.underlying22 hiI _ 1 _ rfl o0 rfl ?_)
      | fail)
    rw [← hw1]
    have hF : Fr [] w w1 := by rw [hw1]; exact F1
    have A2 : At w1 w.heap.size 63 [.string a, .string b] := by rw [hw1]; exact A1
    have hT2 : Texts w1 (some ⟨w.heap.size + 1, 0, none⟩) [a] := by rw [hw1]; exact Texts.ofOwn o1
    generalize w1 = w2 at hF A2 hT2
    go_wp2_with fail
    refine wp_region_until (fun w' => At w' w.heap.size 63 [.string a, .string b] ∧ w'.cell? ⟨w.heap.size, 1, none⟩ = some (.string b)) (fun _ => True) 1000 (by rfl) ?_
    have hT : True := trivial
    have s0 : _ ∧ _ := ⟨A2.drew, A2.drew.cell 1⟩
    refine until_s0 0 (v := ?_) rfl (by kernel_rfl) (fun _ _ _ h => h) (Or.inl ⟨by rfl, ?_⟩) (by assumption) (fun h => by first | assumption | exact absurd (h : true = false) (by decide)) ?_
    rotate_left
    · intro w hSw; (try dsimp only at hSw); (try go_simp); (try with_reducible rfl)
    try simp only [Act.put, List.setIfInBounds_toArray, List.set_cons_zero, List.set_cons_succ]
    refine until_s0 1 (v := ?_) rfl (by kernel_rfl) (fun _ _ _ h => h) (Or.inl ⟨by rfl, ?_⟩) (by assumption) (fun h => by first | assumption | exact absurd (h : true = false) (by decide)) ?_
    rotate_left
    · intro w hSw; (try dsimp only at hSw); (try go_simp); (try with_reducible rfl)
    try simp only [Act.put, List.setIfInBounds_toArray, List.set_cons_zero, List.set_cons_succ]
    refine until_s0 2 (v := ?_) rfl (by kernel_rfl) (fun _ _ _ h => h) (Or.inl ⟨by rfl, ?_⟩) (by assumption) (fun h => by first | assumption | exact absurd (h : true = false) (by decide)) ?_
    rotate_left
    · intro w hSw; (try dsimp only at hSw); (try go_simp); (try with_reducible rfl)
    try simp only [Act.put, List.setIfInBounds_toArray, List.set_cons_zero, List.set_cons_succ]
    refine until_sole 3 rfl (by kernel_rfl) (by rfl) ?_
    intro K' hK
    go_simp
    go_at_call 16
    refine (cA _ _ _ (hI.keep (hF.trans (Fr.drew _ _))) (hR.keep (hF.trans (Fr.drew [] _)) (by simp)) (hT2.keep (Fr.drew _ _))).mono ?_
    rintro _ w3 ⟨rfl, f3⟩
    go_wp2_with fail
    have A3 := f3.keep A2.drew (by simp)
    have F3 := hF.trans ((Fr.drew [] w2).trans f3)
    have s3 : _ ∧ _ := ⟨A3, A3.cell 1⟩
    refine hK _ _ s3 (fun _ => trivial) ?_
    clear hK s0
    skip
    refine until_sole 4 rfl (by kernel_rfl) (by rfl) ?_
    intro K' hK
    go_simp
    have A4 := A3.alloc (.cells #[.string b, .string xs] 9)
    have s4 : _ ∧ _ := ⟨A4, A4.cell 1⟩
    refine hK _ _ s4 (fun _ => trivial) ?_
    clear hK s3
    skip
    refine until_sole 5 rfl (by kernel_rfl) (by rfl) ?_
    intro K' hK
    go_simp
    go_at_call 16
    refine (cB _ _ (hI.keep (F3.trans (Fr.alloc _ _ _))) (hR.keep (F3.trans (Fr.alloc [] _ _)) (by simp)) (At.alloc_new _ _ _)).mono ?_
    rintro _ w4 ⟨rfl, f4⟩
    go_wp2_with fail
    have A5 := f4.keep A4 (by simp)
    have s5 : _ ∧ _ := ⟨A5, A5.cell 1⟩
    refine hK _ _ s5 (fun _ => trivial) ?_
    clear hK s4
    refine until_s0 6 (v := ?_) rfl (by kernel_rfl) (fun _ _ _ h => h) (Or.inl ⟨by rfl, ?_⟩) (by assumption) (fun h => by first | assumption | exact absurd (h : true = false) (by decide)) ?_
    rotate_left
    · intro w hSw; (try dsimp only at hSw); (try go_simp); (try with_reducible rfl)
    try simp only [Act.put, List.setIfInBounds_toArray, List.set_cons_zero, List.set_cons_succ]
    refine until_done (by kernel_rfl) ?_ _
    go_wp2_with fail
    go_ret
    exact ⟨rfl, (F3.trans (Fr.alloc _ _ _)).trans f4⟩

set_option maxRecDepth 100000 in
theorem hmac_any (key : ByteArray) (hkey : key.size ≤ 1152921504606846976) (ps : List ByteArray) (ad : Option Addr) (cap : Nat) (had : (∃ g o, ad = some ⟨g, o, none⟩) ∨ (ad = none ∧ ps = [] ∧ cap = 0))
    (hj : (joinL ps).length ≤ 576460752303423488) (hp16 : ps.length * 16 ≤ 140737488351232) (w : World) (hI : First w) (hR : Roots w) (hp : Texts w ad ps) :
    Calls Tryd.prog 13 #[.string key, .slice ad ps.length cap] w fun e w' => e = .returned (.string ⟨(hmacL key.data.toList (joinL ps)).toArray⟩) ∧ Fr [] w w' := by
  have cP := padsOf_any key hkey w hI hR
  have cS : ∀ w' (f : Fr [] w w'), Calls Tryd.prog 39 #[.agg #[.string ⟨(innerL key.data.toList).toArray⟩, .string ⟨(outerL key.data.toList).toArray⟩], .slice ad ps.length cap] w' fun e w'' => e = .returned (.string ⟨(hmacL key.data.toList (joinL ps)).toArray⟩) ∧ Fr [] w' w'' := fun w' f =>
    psum_any ⟨(innerL key.data.toList).toArray⟩ ⟨(outerL key.data.toList).toArray⟩ ps ad cap had (by show (innerL key.data.toList).toArray.size = 64; rw [List.size_toArray, innerL_len]) (by show (outerL key.data.toList).toArray.size = 64; rw [List.size_toArray, outerL_len]) hj hp16 w' (hI.keep f) (hR.keep f (by simp)) (hp.keep f)
  generalize (⟨(innerL key.data.toList).toArray⟩ : ByteArray) = a at cP cS
  generalize (⟨(outerL key.data.toList).toArray⟩ : ByteArray) = b at cP cS
  generalize (⟨(hmacL key.data.toList (joinL ps)).toArray⟩ : ByteArray) = c at cS ⊢
  go_enter Tryd.func13, Tryd.ntmps13
  go_wp2_with (first
    | (go_at_call 38; refine cP.mono ?_; clear cP; rintro e w1 ⟨rfl, f1⟩)
    | (go_at_call 39; refine (cS _ f1).mono ?_; rintro e w2 ⟨rfl, f2⟩)
    | fail)
  go_ret
  exact ⟨rfl, f1.trans f2⟩
end Go.Proofs.YtbpaknnnkmjgjaaDoor
