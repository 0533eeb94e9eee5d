/- The running keyed sum of the program. -/
import Derived.Test.YtbpaknnnkmjgjaaDoorLawKdfKeysW
import Derived.Test.YtbpaknnnkmjgjaaDoorUntil
namespace Go.Proofs.YtbpaknnnkmjgjaaDoor
open Go.RowKit Go.Lib Go.Joins Base
set_option linter.unusedVariables false
set_option linter.unusedSimpArgs false

/-- A sum that took a text. -/
def Took (w : World) (p : Nat) (J : List UInt8) : Prop := Hold w p (wordsOf firstL J) (restOf J) J.length
theorem Hold.keep' {w w' : World} {S : List Nat} {b : Nat} {H : List UInt32} {rest : List UInt8} {n : Nat} (h : Hold w b H rest n) (f : Fr S w w') (hS : b ∉ S) : Hold w' b H rest n := by
  obtain ⟨hb, hH, hr, tail, htl, htk, hA⟩ := h
  exact ⟨hb, hH, hr, tail, htl, htk, f.keep hA hS⟩
theorem Took.keep {w w' : World} {S : List Nat} {p : Nat} {J : List UInt8} (h : Took w p J) (f : Fr S w w') (hS : p ∉ S) : Took w' p J := Hold.keep' h f hS
theorem Took.lt {w : World} {p : Nat} {J : List UInt8} (h : Took w p J) : p < w.heap.size := by
  obtain ⟨_, _, _, _, _, _, hA⟩ := h
  exact hA.lt
theorem hcells72 (H : List UInt32) (t : List UInt8) (n : Nat) (h1 : H.length = 8) (h2 : t.length = 64) : (hcells H t n)[72]? = some (.int .i64 n) := by
  unfold hcells
  rw [List.getElem?_append_right (by simp [wcells_len, byteCells_length]; omega)]
  simp [wcells_len, byteCells_length, h1, h2]
set_option maxRecDepth 100000 in
set_option maxHeartbeats 1000000 in
theorem took_write (J : List UInt8) (p : Nat) (d : ByteArray) (hn : J.length + d.size ≤ 1099511627776) (w : World) (hR : Roots w) (h : Took w p J) :
    Calls Tryd.prog 45 #[.pointer (some ⟨p, 0, none⟩), .string d] w fun e w' => e = .returned (.int .i64 0) ∧ Took w' p (J ++ d.data.toList) ∧ Fr [p] w w' := by
  have h' := h
  obtain ⟨hb, hH, hr, tail, htl, htk, hA⟩ := h
  have c72 := hA.cell 72
  rw [hcells72 _ _ _ hH htl] at c72
  have w1 : IntKind.i64.wrap (1099511627776 - (J.length : Int)) = 1099511627776 - (J.length : Int) := IntWalk.i64_in _ (by omega)
  have l1 : ¬ 1099511627776 - (J.length : Int) < d.size := by omega
  have ht := take_any _ _ J.length p d (by omega) w hR h'
  rw [wordsOf_app, restOf_app, show J.length + d.size = (J ++ d.data.toList).length by simp] at ht
  go_enter Tryd.func45, Tryd.ntmps45
  go_wp2_with (first
    | (go_at_call 43; refine ht.mono ?_; rintro e w3 ⟨rfl, h3, f3⟩)
    | fail)
  go_ret
  exact ⟨rfl, h3, f3⟩
theorem took_sum (J : List UInt8) (p : Nat) (hn : J.length ≤ 1099511627776) (w : World) (hR : Roots w) (h : Took w p J) :
    Calls Tryd.prog 44 #[.pointer (some ⟨p, 0, none⟩)] w fun e w' => e = .returned (.string ⟨(shaL J).toArray⟩) ∧ Fr [] w w' := by
  have := hsum_any _ _ _ p (by omega) w hR h
  rw [sumOf_rest] at this
  exact this

/-- A running keyed sum in block m: its text so far. -/
def MacAt (w : World) (m p : Nat) (K T : List UInt8) : Prop := m ≠ p ∧ At w m 69 [.string ⟨(innerL K).toArray⟩, .string ⟨(outerL K).toArray⟩, .pointer (some ⟨p, 0, none⟩)] ∧ Took w p (innerL K ++ T)
theorem MacAt.keep {w w' : World} {S : List Nat} {m p : Nat} {K T : List UInt8} (h : MacAt w m p K T) (f : Fr S w w') (h1 : m ∉ S) (h2 : p ∉ S) : MacAt w' m p K T := ⟨h.1, f.keep h.2.1 h1, h.2.2.keep f h2⟩

set_option maxRecDepth 100000 in
set_option maxHeartbeats 1000000 in
theorem newMac_any (key : ByteArray) (hkey : key.size ≤ 1152921504606846976) (w : World) (hI : First w) (hR : Roots w) :
    Calls Tryd.prog 19 #[.string key] w fun e w' => ∃ m p, e = .returned (.pointer (some ⟨m, 0, none⟩)) ∧ w.heap.size ≤ m ∧ w.heap.size ≤ p ∧ MacAt w' m p key.data.toList [] ∧ Fr [] w w' := by
  have cP := padsOf_any key hkey w hI hR
  obtain ⟨a, ha⟩ : ∃ a : ByteArray, a = ⟨(innerL key.data.toList).toArray⟩ := ⟨_, rfl⟩
  obtain ⟨b, hb⟩ : ∃ b : ByteArray, b = ⟨(outerL key.data.toList).toArray⟩ := ⟨_, rfl⟩
  rw [← ha, ← hb] at cP
  have had : a.data.toList = innerL key.data.toList := by rw [ha]
  have hal : a.size = 64 := by have := congrArg List.length had; rw [innerL_len] at this; simpa using this
  have HA := Lib.hid (And.intro ha (And.intro hb had))
  clear ha hb had
  go_enter Tryd.func19, Tryd.ntmps19
  go_wp2_with (first
    | (go_at_call 38; refine cP.mono ?_; clear cP; rintro e w1 ⟨rfl, f1⟩)
    | (go_at_call 42; refine (newHasher_any _ (hI.keep f1) (hR.keep f1 (by simp))).mono ?_; rintro e w2 ⟨rfl, h2, f2⟩)
    | fail)
  have A2 := At.alloc_new w2 69 #[.string a, .string b, .pointer (some ⟨w1.heap.size, 0, none⟩)]
  have hT : Took w2 w1.heap.size [] := h2
  have hlt := hT.lt
  have F2 := f1.trans f2
  have hpw := f1.size
  have hsz2 := F2.size
  have tw := fun w' hR' h' => took_write [] w1.heap.size a (by simp; omega) w' hR' h'
  rw [List.nil_append] at tw
  generalize w1.heap.size = p at h2 hT hlt A2 hpw tw ⊢
  clear h2
  refine wp_region_until (fun w' => At w' w2.heap.size 69 [.string a, .string b, .pointer (some ⟨p, 0, none⟩)] ∧ w'.cell? ⟨w2.heap.size, 0, none⟩ = some (.string a) ∧ w'.cell? ⟨w2.heap.size, 2, none⟩ = some (.pointer (some ⟨p, 0, none⟩))) (fun _ => True) 1000 (by rfl) ?_
  have hT1 : True := trivial
  have s0 : _ ∧ _ ∧ _ := ⟨A2.drew, A2.drew.cell 0, A2.drew.cell 2⟩
  refine until_s0 0 (v := ?_) rfl (by kernel_rfl) (fun _ _ _ h => h) (Or.inl ⟨by rfl, ?_⟩) (by assumption) (fun h => by first | assumption | exact absurd (h : true = false) (by decide)) ?_
  rotate_left
  · intro w hSw; (try dsimp only at hSw); (try go_simp); (try with_reducible rfl)
  try simp only [Act.put, List.setIfInBounds_toArray, List.set_cons_zero, List.set_cons_succ]
  refine until_s0 1 (v := ?_) rfl (by kernel_rfl) (fun _ _ _ h => h) (Or.inl ⟨by rfl, ?_⟩) (by assumption) (fun h => by first | assumption | exact absurd (h : true = false) (by decide)) ?_
  rotate_left
  · intro w hSw; (try dsimp only at hSw); (try go_simp); (try with_reducible rfl)
  try simp only [Act.put, List.setIfInBounds_toArray, List.set_cons_zero, List.set_cons_succ]
  refine until_s0 2 (v := ?_) rfl (by kernel_rfl) (fun _ _ _ h => h) (Or.inl ⟨by rfl, ?_⟩) (by assumption) (fun h => by first | assumption | exact absurd (h : true = false) (by decide)) ?_
  rotate_left
  · intro w hSw; (try dsimp only at hSw); (try go_simp); (try with_reducible rfl)
  try simp only [Act.put, List.setIfInBounds_toArray, List.set_cons_zero, List.set_cons_succ]
  refine until_s0 3 (v := ?_) rfl (by kernel_rfl) (fun _ _ _ h => h) (Or.inl ⟨by rfl, ?_⟩) (by assumption) (fun h => by first | assumption | exact absurd (h : true = false) (by decide)) ?_
  rotate_left
  · intro w hSw; (try dsimp only at hSw); (try go_simp); (try with_reducible rfl)
  try simp only [Act.put, List.setIfInBounds_toArray, List.set_cons_zero, List.set_cons_succ]
  refine until_s0 4 (v := ?_) rfl (by kernel_rfl) (fun _ _ _ h => h) (Or.inl ⟨by rfl, ?_⟩) (by assumption) (fun h => by first | assumption | exact absurd (h : true = false) (by decide)) ?_
  rotate_left
  · intro w hSw; (try dsimp only at hSw); (try go_simp); (try with_reducible rfl)
  try simp only [Act.put, List.setIfInBounds_toArray, List.set_cons_zero, List.set_cons_succ]
  refine until_s0 5 (v := ?_) rfl (by kernel_rfl) (fun _ _ _ h => h) (Or.inl ⟨by rfl, ?_⟩) (by assumption) (fun h => by first | assumption | exact absurd (h : true = false) (by decide)) ?_
  rotate_left
  · intro w hSw; (try dsimp only at hSw); (try go_simp); (try with_reducible rfl)
  try simp only [Act.put, List.setIfInBounds_toArray, List.set_cons_zero, List.set_cons_succ]
  refine until_s0 6 (v := ?_) rfl (by kernel_rfl) (fun _ _ _ h => h) (Or.inl ⟨by rfl, ?_⟩) (by assumption) (fun h => by first | assumption | exact absurd (h : true = false) (by decide)) ?_
  rotate_left
  · intro w hSw; (try dsimp only at hSw); (try go_simp); (try with_reducible rfl)
  try simp only [Act.put, List.setIfInBounds_toArray, List.set_cons_zero, List.set_cons_succ]
  refine until_s0 7 (v := ?_) rfl (by kernel_rfl) (fun _ _ _ h => h) (Or.inl ⟨by rfl, ?_⟩) (by assumption) (fun h => by first | assumption | exact absurd (h : true = false) (by decide)) ?_
  rotate_left
  · intro w hSw; (try dsimp only at hSw); (try go_simp); (try with_reducible rfl)
  try simp only [Act.put, List.setIfInBounds_toArray, List.set_cons_zero, List.set_cons_succ]
  refine until_s0 8 (v := ?_) rfl (by kernel_rfl) (fun _ _ _ h => h) (Or.inl ⟨by rfl, ?_⟩) (by assumption) (fun h => by first | assumption | exact absurd (h : true = false) (by decide)) ?_
  rotate_left
  · intro w hSw; (try dsimp only at hSw); (try go_simp); (try with_reducible rfl)
  try simp only [Act.put, List.setIfInBounds_toArray, List.set_cons_zero, List.set_cons_succ]
  refine until_sole 9 rfl (by kernel_rfl) (by rfl) ?_
  intro K' hK
  go_simp
  go_at_call 45
  have hTa : Took ((w2.alloc (.cells #[.string a, .string b, .pointer (some ⟨p, 0, none⟩)] 69)).drew) p [] := hT.keep ((Fr.alloc [] _ _).trans (Fr.drew _ _)) (by simp)
  refine (tw _ (hR.keep ((F2.trans (Fr.alloc _ _ _)).trans (Fr.drew [] _)) (by simp)) hTa).mono ?_
  rintro _ w3 ⟨rfl, h3, f3⟩
  go_wp2_with fail
  have A3 := f3.keep A2.drew (by simp; omega)
  refine hK _ _ ⟨A3, A3.cell 0, A3.cell 2⟩ (fun _ => trivial) ?_
  clear hK
  refine until_done (by kernel_rfl) ?_ _
  go_wp2_with fail
  go_ret
  obtain ⟨ha, hb, had⟩ := HA.out
  refine ⟨_, p, rfl, hsz2, hpw, ⟨by omega, by rw [← ha, ← hb]; exact A3, by rw [List.append_nil, ← had]; exact h3⟩, ?_⟩
  exact ((F2.trans (Fr.alloc _ _ _)).trans (Fr.drew _ _)).new (S := [p]) f3 (by simp; exact hpw)

set_option maxRecDepth 100000 in
set_option maxHeartbeats 1000000 in
theorem macWrite_any (K T : List UInt8) (m p : Nat) (d : ByteArray) (hn : T.length + d.size ≤ 1099511627712) (w : World) (hR : Roots w) (h : MacAt w m p K T) :
    Calls Tryd.prog 22 #[.pointer (some ⟨m, 0, none⟩), .string d] w fun e w' => e = .returned (.int .i64 0) ∧ MacAt w' m p K (T ++ d.data.toList) ∧ Fr [p] w w' := by
  obtain ⟨hne, hA, hT⟩ := h
  have c2 := hA.cell 2
  have tw := took_write (innerL K ++ T) p d (by rw [List.length_append, innerL_len]; omega) w hR hT
  rw [List.append_assoc] at tw
  go_enter Tryd.func22, Tryd.ntmps22
  go_wp2_with (first
    | (go_at_call 45; refine tw.mono ?_; rintro e w3 ⟨rfl, h3, f3⟩)
    | fail)
  go_ret
  exact ⟨rfl, ⟨hne, f3.keep hA (by simp; exact hne), h3⟩, f3⟩

set_option maxRecDepth 100000 in
set_option maxHeartbeats 1000000 in
theorem macSum_any (K T : List UInt8) (m p : Nat) (hn : T.length ≤ 1099511627712) (w : World) (hI : First w) (hR : Roots w) (h : MacAt w m p K T) :
    Calls Tryd.prog 23 #[.pointer (some ⟨m, 0, none⟩)] w fun e w' => e = .returned (.string ⟨(hmacL K T).toArray⟩) ∧ Fr [] w w' := by
  obtain ⟨hne, hA, hT⟩ := h
  have cM := took_sum (innerL K ++ T) p (by rw [List.length_append, innerL_len]; omega) w.drew hR (hT.keep (Fr.drew [] _) (by simp))
  obtain ⟨X, hX⟩ : ∃ X, X = shaL (innerL K ++ T) := ⟨_, rfl⟩
  have hXl : X.length = 32 := by rw [hX, shaL_len]
  rw [← hX] at cM
  have hh : hmacL K T = shaL (outerL K ++ X) := by rw [hX]; rfl
  have cB : ∀ w g, First w → Roots w → At w g 9 [.string ⟨(outerL K).toArray⟩, .string ⟨X.toArray⟩] → Calls Tryd.prog 16 #[.slice (some ⟨g, 0, none⟩) 2 2] w fun e w' => e = .returned (.string ⟨(hmacL K T).toArray⟩) ∧ Fr [] w w' := fun w g h1 h2 h3 => by
    have e : joinL [⟨(outerL K).toArray⟩, ⟨X.toArray⟩] = outerL K ++ X := by rw [joinL_two]
    have := sum_any [⟨(outerL K).toArray⟩, ⟨X.toArray⟩] (some ⟨g, 0, none⟩) 2 (by rw [e, List.length_append, outerL_len]; omega) (by simp) w h1 h2 (Texts.ofAt h3)
    rw [e, ← hh] at this
    exact this
  obtain ⟨a, ha⟩ : ∃ a : ByteArray, a = ⟨(innerL K).toArray⟩ := ⟨_, rfl⟩
  obtain ⟨b, hb⟩ : ∃ b : ByteArray, b = ⟨(outerL K).toArray⟩ := ⟨_, rfl⟩
  rw [← ha, ← hb] at hA
  simp only [← hb] at cB
  generalize (⟨X.toArray⟩ : ByteArray) = xs at cM cB
  generalize (⟨(hmacL K T).toArray⟩ : ByteArray) = ans at cB ⊢
  clear hh hXl hX ha hb
  go_enter Tryd.func23, Tryd.ntmps23
  go_wp2_with fail
  refine wp_region_until (fun w' => At w' m 69 [.string a, .string b, .pointer (some ⟨p, 0, none⟩)] ∧ w'.cell? ⟨m, 1, none⟩ = some (.string b) ∧ w'.cell? ⟨m, 2, none⟩ = some (.pointer (some ⟨p, 0, none⟩))) (fun _ => True) 1000 (by rfl) ?_
  have hT1 : True := trivial
  have s0 : _ ∧ _ ∧ _ := ⟨hA.drew, hA.drew.cell 1, hA.drew.cell 2⟩
  refine until_s0 0 (v := ?_) rfl (by kernel_rfl) (fun _ _ _ h => h) (Or.inl ⟨by rfl, ?_⟩) (by assumption) (fun h => by first | assumption | exact absurd (h : true = false) (by decide)) ?_
  rotate_left
  · intro w hSw; (try dsimp only at hSw); (try go_simp); (try with_reducible rfl)
  try simp only [Act.put, List.setIfInBounds_toArray, List.set_cons_zero, List.set_cons_succ]
  refine until_s0 1 (v := ?_) rfl (by kernel_rfl) (fun _ _ _ h => h) (Or.inl ⟨by rfl, ?_⟩) (by assumption) (fun h => by first | assumption | exact absurd (h : true = false) (by decide)) ?_
  rotate_left
  · intro w hSw; (try dsimp only at hSw); (try go_simp); (try with_reducible rfl)
  try simp only [Act.put, List.setIfInBounds_toArray, List.set_cons_zero, List.set_cons_succ]
  refine until_s0 2 (v := ?_) rfl (by kernel_rfl) (fun _ _ _ h => h) (Or.inl ⟨by rfl, ?_⟩) (by assumption) (fun h => by first | assumption | exact absurd (h : true = false) (by decide)) ?_
  rotate_left
  · intro w hSw; (try dsimp only at hSw); (try go_simp); (try with_reducible rfl)
  try simp only [Act.put, List.setIfInBounds_toArray, List.set_cons_zero, List.set_cons_succ]
  refine until_s0 3 (v := ?_) rfl (by kernel_rfl) (fun _ _ _ h => h) (Or.inl ⟨by rfl, ?_⟩) (by assumption) (fun h => by first | assumption | exact absurd (h : true = false) (by decide)) ?_
  rotate_left
  · intro w hSw; (try dsimp only at hSw); (try go_simp); (try with_reducible rfl)
  try simp only [Act.put, List.setIfInBounds_toArray, List.set_cons_zero, List.set_cons_succ]
  refine until_s0 4 (v := ?_) rfl (by kernel_rfl) (fun _ _ _ h => h) (Or.inl ⟨by rfl, ?_⟩) (by assumption) (fun h => by first | assumption | exact absurd (h : true = false) (by decide)) ?_
  rotate_left
  · intro w hSw; (try dsimp only at hSw); (try go_simp); (try with_reducible rfl)
  try simp only [Act.put, List.setIfInBounds_toArray, List.set_cons_zero, List.set_cons_succ]
  refine until_s0 5 (v := ?_) rfl (by kernel_rfl) (fun _ _ _ h => h) (Or.inl ⟨by rfl, ?_⟩) (by assumption) (fun h => by first | assumption | exact absurd (h : true = false) (by decide)) ?_
  rotate_left
  · intro w hSw; (try dsimp only at hSw); (try go_simp); (try with_reducible rfl)
  try simp only [Act.put, List.setIfInBounds_toArray, List.set_cons_zero, List.set_cons_succ]
  refine until_s0 6 (v := ?_) rfl (by kernel_rfl) (fun _ _ _ h => h) (Or.inl ⟨by rfl, ?_⟩) (by assumption) (fun h => by first | assumption | exact absurd (h : true = false) (by decide)) ?_
  rotate_left
  · intro w hSw; (try dsimp only at hSw); (try go_simp); (try with_reducible rfl)
  try simp only [Act.put, List.setIfInBounds_toArray, List.set_cons_zero, List.set_cons_succ]
  refine until_s0 7 (v := ?_) rfl (by kernel_rfl) (fun _ _ _ h => h) (Or.inl ⟨by rfl, ?_⟩) (by assumption) (fun h => by first | assumption | exact absurd (h : true = false) (by decide)) ?_
  rotate_left
  · intro w hSw; (try dsimp only at hSw); (try go_simp); (try with_reducible rfl)
  try simp only [Act.put, List.setIfInBounds_toArray, List.set_cons_zero, List.set_cons_succ]
  refine until_s0 8 (v := ?_) rfl (by kernel_rfl) (fun _ _ _ h => h) (Or.inl ⟨by rfl, ?_⟩) (by assumption) (fun h => by first | assumption | exact absurd (h : true = false) (by decide)) ?_
  rotate_left
  · intro w hSw; (try dsimp only at hSw); (try go_simp); (try with_reducible rfl)
  try simp only [Act.put, List.setIfInBounds_toArray, List.set_cons_zero, List.set_cons_succ]
  refine until_sole 9 rfl (by kernel_rfl) (by rfl) ?_
  intro K' hK
  go_simp
  go_at_call 44
  refine cM.mono ?_
  rintro _ w3 ⟨rfl, f3⟩
  go_wp2_with fail
  have A3 := f3.keep hA.drew (by simp)
  have F3 := (Fr.drew [] w).trans f3
  have s3 : _ ∧ _ ∧ _ := ⟨A3, A3.cell 1, A3.cell 2⟩
  refine hK _ _ s3 (fun _ => trivial) ?_
  clear hK s0
  skip
  refine until_sole 10 rfl (by kernel_rfl) (by rfl) ?_
  intro K' hK
  go_simp
  have A4 := A3.alloc (.cells #[.string b, .string xs] 9)
  have s4 : _ ∧ _ ∧ _ := ⟨A4, A4.cell 1, A4.cell 2⟩
  refine hK _ _ s4 (fun _ => trivial) ?_
  clear hK s3
  skip
  refine until_sole 11 rfl (by kernel_rfl) (by rfl) ?_
  intro K' hK
  go_simp
  go_at_call 16
  refine (cB _ _ (hI.keep (F3.trans (Fr.alloc _ _ _))) (hR.keep (F3.trans (Fr.alloc [] _ _)) (by simp)) (At.alloc_new _ _ _)).mono ?_
  rintro _ w4 ⟨rfl, f4⟩
  go_wp2_with fail
  have A5 := f4.keep A4 (by simp)
  have s5 : _ ∧ _ ∧ _ := ⟨A5, A5.cell 1, A5.cell 2⟩
  refine hK _ _ s5 (fun _ => trivial) ?_
  clear hK s4
  refine until_s0 12 (v := ?_) rfl (by kernel_rfl) (fun _ _ _ h => h) (Or.inl ⟨by rfl, ?_⟩) (by assumption) (fun h => by first | assumption | exact absurd (h : true = false) (by decide)) ?_
  rotate_left
  · intro w hSw; (try dsimp only at hSw); (try go_simp); (try with_reducible rfl)
  try simp only [Act.put, List.setIfInBounds_toArray, List.set_cons_zero, List.set_cons_succ]
  refine until_done (by kernel_rfl) ?_ _
  go_wp2_with fail
  go_ret
  exact ⟨rfl, (F3.trans (Fr.alloc _ _ _)).trans f4⟩
end Go.Proofs.YtbpaknnnkmjgjaaDoor
