/- The ideal sealer: Open of anything. (mkopen8.py wrote it.) -/
import Derived.Test.YthalpgandfbkdaaIdlF
namespace Go.Proofs.Ythalpgandfbkdaa
open Go.RowKit Go.Lib Go.Joins Base Go.Maps
set_option linter.unusedVariables false
set_option linter.unusedSimpArgs false

set_option maxRecDepth 100000 in
set_option maxHeartbeats 1000000 in
theorem open_none (k : Int) (hk : 1 ≤ k ∧ k ≤ 3) (x c : ByteArray) (hx : x.size ≤ 64) (hc : c.size ≤ 4611686018427387904) {base p b : Nat} {v : Value} {rs : List Rw} {F : ByteArray → Int} (hF : F (tagX c) = 0) (w : World) (hI : Idl w base p b v rs F) :
    Calls Try.prog 21 #[.pointer (some ⟨p, 0, none⟩), .int .i64 k, .string x, .string c] w fun e w' => e = .returned (.tuple #[.string ⟨#[]⟩, .int .i64 81]) ∧ Fr [] w w' := by
  have c1 := fun w => place_any k hk x hx w
  have c2 := fun w => (tagX_any c hc w).mono (R' := fun e w' => e = .returned (.string (tagX c)) ∧ Fr [] w w') (fun e w' ⟨h1, h2⟩ => ⟨h1, h2 ▸ Fr.refl _ _⟩)
  have ts := tagX_size c
  obtain ⟨T, hT⟩ : ∃ T, T = tagX c := ⟨_, rfl⟩
  rw [← hT] at c2 ts hF
  have hpa0 := part0 hI.at_
  clear hT
  go_enter Try.func21, Try.ntmps21
  go_upto_region 6 with (first
    | (go_at_call 26; refine (c1 _).mono ?_; clear c1; rintro e w1 ⟨rfl, f1⟩)
    | fail)
  have hI1 : Idl w1 base p b v rs F := hI.fr f1 (by simp) (by simp) (by simp)
  obtain ⟨G, hG⟩ : ∃ G : World → Prop, G = Fr [] w1 := ⟨_, rfl⟩
  have gW : ∀ w', G w' ↔ Fr [] w1 w' := fun w' => by rw [hG]
  clear hG
  have g2 : ∀ y : Gw G, Fr [] w1 y.w := fun y => (gW _).1 y.ok
  have hA' : ∀ y : Gw G, At y.w p 62 [v, .map (some b)] := fun y => (g2 y).keep hI1.at_ (by simp)
  have hpa := fun y : Gw G => part0 (hA' y)
  have hcell : ∀ y : Gw G, y.w.cell? ⟨p, 1, none⟩ = some (.map (some b)) := fun y => (hA' y).cell 1
  have hlk : ∀ y : Gw G, (Instr.lookup 58 (.map (some b)) (.string T) false).run Try.prog y.w = .ok (.int .i64 (F T)) y.w := fun y => (hI1.tab.fr (g2 y) (by simp)).look _ (by unfold maxLen; omega)
  have g1 : ∀ (y : Gw G) w', Fr [] y.w w' → G w' := fun y w' f => (gW _).2 ((g2 y).trans f)
  have g0 : G w1.drew := (gW _).2 (Fr.drew _ _)
  have ne : Nonempty (Gw G) := ⟨⟨_, g0⟩⟩
  rw [hF] at hlk
  clear hA' ts
  refine wp_region_gw G (by kernel_rfl) (by kernel_rfl) g0 ?_
  repeat (go_big_quiet_step (first
    | (go_at_call 11; exact gw_call (c2 _) (g1 _))))
  refine wpQuiet_nil ?_
  rintro _ ⟨y, rfl⟩
  have f2 := g2 y
  have F2 := f1.trans f2
  have hI2 : Idl y.w base p b v rs F := hI1.fr f2 (by simp) (by simp) (by simp)
  generalize y.w = w2 at f2 F2 hI2 ⊢
  clear hpa hcell hlk g1 g0 ne gW g2 hI1
  go_wp2_with fail
  go_ret2
  exact ⟨rfl, F2⟩
set_option maxRecDepth 100000 in
set_option maxHeartbeats 1000000 in
theorem open_hit (k : Int) (hk : 1 ≤ k ∧ k ≤ 3) (x c : ByteArray) (hx : x.size ≤ 64) (hc : c.size ≤ 4611686018427387904) {base p b : Nat} {v : Value} {rs : List Rw} {F : ByteArray → Int} (j : Nat) (r : Rw) (hj : rs[j]? = some r) (hn : rs.length ≤ 4398046511104) (hF : F (tagX c) = ((j + 1 : Nat) : Int)) (hf : Fits r k x c) (w : World) (hI : Idl w base p b v rs F) :
    Calls Try.prog 21 #[.pointer (some ⟨p, 0, none⟩), .int .i64 k, .string x, .string c] w fun e w' => e = .returned (.tuple #[.string r.2.2.2, .int .i64 0]) ∧ Fr [] w w' := by
  have c1 := fun w => place_any k hk x hx w
  have c2 := fun w => (tagX_any c hc w).mono (R' := fun e w' => e = .returned (.string (tagX c)) ∧ Fr [] w w') (fun e w' ⟨h1, h2⟩ => ⟨h1, h2 ▸ Fr.refl _ _⟩)
  have ts := tagX_size c
  obtain ⟨T, hT⟩ : ∃ T, T = tagX c := ⟨_, rfl⟩
  rw [← hT] at c2 ts hF
  obtain ⟨r1, r2, r3, r4⟩ := r
  have hlt : j < rs.length := (List.getElem?_eq_some_iff.1 hj).1
  have wj : IntKind.i64.wrap (((j + 1 : Nat) : Int) - 1) = (j : Int) := by rw [IntWalk.i64_in _ (by omega)]; omega
  have hj0 : ¬ ((j + 1 : Nat) : Int) = 0 := by omega
  have ljn : (j : Int) < rs.length := by omega
  obtain ⟨m, hm⟩ : ∃ m : Int, m = ((j + 1 : Nat) : Int) := ⟨_, rfl⟩
  rw [← hm] at wj hj0 hF
  clear hm
  obtain ⟨h1, h2, h3⟩ := hf
  simp only at h1 h2 h3
  subst h1 h2 h3
  have b1 : (r1 != r1) = false := by simp
  have b2 := str_eq (rfl : r2 = r2)
  have b3 := str_eq (rfl : r3 = r3)
  have hpa0 := part0 hI.at_
  clear hT
  go_enter Try.func21, Try.ntmps21
  go_upto_region 6 with (first
    | (go_at_call 26; refine (c1 _).mono ?_; clear c1; rintro e w1 ⟨rfl, f1⟩)
    | fail)
  have hI1 : Idl w1 base p b v rs F := hI.fr f1 (by simp) (by simp) (by simp)
  obtain ⟨G, hG⟩ : ∃ G : World → Prop, G = Fr [] w1 := ⟨_, rfl⟩
  have gW : ∀ w', G w' ↔ Fr [] w1 w' := fun w' => by rw [hG]
  clear hG
  have g2 : ∀ y : Gw G, Fr [] w1 y.w := fun y => (gW _).1 y.ok
  have hA' : ∀ y : Gw G, At y.w p 62 [v, .map (some b)] := fun y => (g2 y).keep hI1.at_ (by simp)
  have hpa := fun y : Gw G => part0 (hA' y)
  have hcell : ∀ y : Gw G, y.w.cell? ⟨p, 1, none⟩ = some (.map (some b)) := fun y => (hA' y).cell 1
  have hlk : ∀ y : Gw G, (Instr.lookup 58 (.map (some b)) (.string T) false).run Try.prog y.w = .ok (.int .i64 (F T)) y.w := fun y => (hI1.tab.fr (g2 y) (by simp)).look _ (by unfold maxLen; omega)
  have g1 : ∀ (y : Gw G) w', Fr [] y.w w' → G w' := fun y w' f => (gW _).2 ((g2 y).trans f)
  have g0 : G w1.drew := (gW _).2 (Fr.drew _ _)
  have ne : Nonempty (Gw G) := ⟨⟨_, g0⟩⟩
  rw [hF] at hlk
  clear hA' ts
  refine wp_region_gw G (by kernel_rfl) (by kernel_rfl) g0 ?_
  repeat (go_big_quiet_step (first
    | (go_at_call 11; exact gw_call (c2 _) (g1 _))))
  refine wpQuiet_nil ?_
  rintro _ ⟨y, rfl⟩
  have f2 := g2 y
  have F2 := f1.trans f2
  have hI2 : Idl y.w base p b v rs F := hI1.fr f2 (by simp) (by simp) (by simp)
  generalize y.w = w2 at f2 F2 hI2 ⊢
  clear hpa hcell hlk g1 g0 ne gW g2 hI1
  obtain ⟨g, cap, hv, q0, q1, q2, q3⟩ := row_cells hI2 j _ hj
  simp only at q0 q1 q2 q3
  have p0 := hI2.at_.cell 0
  rw [hv] at p0
  clear hv hF hI hI2 hj hlt c2
  go_wp2_with fail
  go_ret2
  exact ⟨rfl, F2.trans (Fr.alloc _ _ _)⟩
set_option maxRecDepth 100000 in
set_option maxHeartbeats 1000000 in
theorem open_kind (k : Int) (hk : 1 ≤ k ∧ k ≤ 3) (x c : ByteArray) (hx : x.size ≤ 64) (hc : c.size ≤ 4611686018427387904) {base p b : Nat} {v : Value} {rs : List Rw} {F : ByteArray → Int} (j : Nat) (r : Rw) (hj : rs[j]? = some r) (hn : rs.length ≤ 4398046511104) (hF : F (tagX c) = ((j + 1 : Nat) : Int)) (hf : r.1 ≠ k) (w : World) (hI : Idl w base p b v rs F) :
    Calls Try.prog 21 #[.pointer (some ⟨p, 0, none⟩), .int .i64 k, .string x, .string c] w fun e w' => e = .returned (.tuple #[.string ⟨#[]⟩, .int .i64 81]) ∧ Fr [] w w' := by
  have c1 := fun w => place_any k hk x hx w
  have c2 := fun w => (tagX_any c hc w).mono (R' := fun e w' => e = .returned (.string (tagX c)) ∧ Fr [] w w') (fun e w' ⟨h1, h2⟩ => ⟨h1, h2 ▸ Fr.refl _ _⟩)
  have ts := tagX_size c
  obtain ⟨T, hT⟩ : ∃ T, T = tagX c := ⟨_, rfl⟩
  rw [← hT] at c2 ts hF
  obtain ⟨r1, r2, r3, r4⟩ := r
  have hlt : j < rs.length := (List.getElem?_eq_some_iff.1 hj).1
  have wj : IntKind.i64.wrap (((j + 1 : Nat) : Int) - 1) = (j : Int) := by rw [IntWalk.i64_in _ (by omega)]; omega
  have hj0 : ¬ ((j + 1 : Nat) : Int) = 0 := by omega
  have ljn : (j : Int) < rs.length := by omega
  obtain ⟨m, hm⟩ : ∃ m : Int, m = ((j + 1 : Nat) : Int) := ⟨_, rfl⟩
  rw [← hm] at wj hj0 hF
  clear hm
  have b1 : (r1 != k) = true := by simpa [bne] using hf
  have hpa0 := part0 hI.at_
  clear hT
  go_enter Try.func21, Try.ntmps21
  go_upto_region 6 with (first
    | (go_at_call 26; refine (c1 _).mono ?_; clear c1; rintro e w1 ⟨rfl, f1⟩)
    | fail)
  have hI1 : Idl w1 base p b v rs F := hI.fr f1 (by simp) (by simp) (by simp)
  obtain ⟨G, hG⟩ : ∃ G : World → Prop, G = Fr [] w1 := ⟨_, rfl⟩
  have gW : ∀ w', G w' ↔ Fr [] w1 w' := fun w' => by rw [hG]
  clear hG
  have g2 : ∀ y : Gw G, Fr [] w1 y.w := fun y => (gW _).1 y.ok
  have hA' : ∀ y : Gw G, At y.w p 62 [v, .map (some b)] := fun y => (g2 y).keep hI1.at_ (by simp)
  have hpa := fun y : Gw G => part0 (hA' y)
  have hcell : ∀ y : Gw G, y.w.cell? ⟨p, 1, none⟩ = some (.map (some b)) := fun y => (hA' y).cell 1
  have hlk : ∀ y : Gw G, (Instr.lookup 58 (.map (some b)) (.string T) false).run Try.prog y.w = .ok (.int .i64 (F T)) y.w := fun y => (hI1.tab.fr (g2 y) (by simp)).look _ (by unfold maxLen; omega)
  have g1 : ∀ (y : Gw G) w', Fr [] y.w w' → G w' := fun y w' f => (gW _).2 ((g2 y).trans f)
  have g0 : G w1.drew := (gW _).2 (Fr.drew _ _)
  have ne : Nonempty (Gw G) := ⟨⟨_, g0⟩⟩
  rw [hF] at hlk
  clear hA' ts
  refine wp_region_gw G (by kernel_rfl) (by kernel_rfl) g0 ?_
  repeat (go_big_quiet_step (first
    | (go_at_call 11; exact gw_call (c2 _) (g1 _))))
  refine wpQuiet_nil ?_
  rintro _ ⟨y, rfl⟩
  have f2 := g2 y
  have F2 := f1.trans f2
  have hI2 : Idl y.w base p b v rs F := hI1.fr f2 (by simp) (by simp) (by simp)
  generalize y.w = w2 at f2 F2 hI2 ⊢
  clear hpa hcell hlk g1 g0 ne gW g2 hI1
  obtain ⟨g, cap, hv, q0, q1, q2, q3⟩ := row_cells hI2 j _ hj
  simp only at q0 q1 q2 q3
  have p0 := hI2.at_.cell 0
  rw [hv] at p0
  clear hv hF hI hI2 hj hlt c2 hf
  go_wp2_with fail
  go_ret2
  exact ⟨rfl, F2.trans (Fr.alloc _ _ _)⟩
set_option maxRecDepth 100000 in
set_option maxHeartbeats 1000000 in
theorem open_name (k : Int) (hk : 1 ≤ k ∧ k ≤ 3) (x c : ByteArray) (hx : x.size ≤ 64) (hc : c.size ≤ 4611686018427387904) {base p b : Nat} {v : Value} {rs : List Rw} {F : ByteArray → Int} (j : Nat) (r : Rw) (hj : rs[j]? = some r) (hn : rs.length ≤ 4398046511104) (hF : F (tagX c) = ((j + 1 : Nat) : Int)) (hf : r.1 = k) (hf2 : r.2.1 ≠ x) (w : World) (hI : Idl w base p b v rs F) :
    Calls Try.prog 21 #[.pointer (some ⟨p, 0, none⟩), .int .i64 k, .string x, .string c] w fun e w' => e = .returned (.tuple #[.string ⟨#[]⟩, .int .i64 81]) ∧ Fr [] w w' := by
  have c1 := fun w => place_any k hk x hx w
  have c2 := fun w => (tagX_any c hc w).mono (R' := fun e w' => e = .returned (.string (tagX c)) ∧ Fr [] w w') (fun e w' ⟨h1, h2⟩ => ⟨h1, h2 ▸ Fr.refl _ _⟩)
  have ts := tagX_size c
  obtain ⟨T, hT⟩ : ∃ T, T = tagX c := ⟨_, rfl⟩
  rw [← hT] at c2 ts hF
  obtain ⟨r1, r2, r3, r4⟩ := r
  have hlt : j < rs.length := (List.getElem?_eq_some_iff.1 hj).1
  have wj : IntKind.i64.wrap (((j + 1 : Nat) : Int) - 1) = (j : Int) := by rw [IntWalk.i64_in _ (by omega)]; omega
  have hj0 : ¬ ((j + 1 : Nat) : Int) = 0 := by omega
  have ljn : (j : Int) < rs.length := by omega
  obtain ⟨m, hm⟩ : ∃ m : Int, m = ((j + 1 : Nat) : Int) := ⟨_, rfl⟩
  rw [← hm] at wj hj0 hF
  clear hm
  simp only at hf hf2
  subst hf
  have b1 : (r1 != r1) = false := by simp
  have b2 := str_neq hf2
  have hpa0 := part0 hI.at_
  clear hT
  go_enter Try.func21, Try.ntmps21
  go_upto_region 6 with (first
    | (go_at_call 26; refine (c1 _).mono ?_; clear c1; rintro e w1 ⟨rfl, f1⟩)
    | fail)
  have hI1 : Idl w1 base p b v rs F := hI.fr f1 (by simp) (by simp) (by simp)
  obtain ⟨G, hG⟩ : ∃ G : World → Prop, G = Fr [] w1 := ⟨_, rfl⟩
  have gW : ∀ w', G w' ↔ Fr [] w1 w' := fun w' => by rw [hG]
  clear hG
  have g2 : ∀ y : Gw G, Fr [] w1 y.w := fun y => (gW _).1 y.ok
  have hA' : ∀ y : Gw G, At y.w p 62 [v, .map (some b)] := fun y => (g2 y).keep hI1.at_ (by simp)
  have hpa := fun y : Gw G => part0 (hA' y)
  have hcell : ∀ y : Gw G, y.w.cell? ⟨p, 1, none⟩ = some (.map (some b)) := fun y => (hA' y).cell 1
  have hlk : ∀ y : Gw G, (Instr.lookup 58 (.map (some b)) (.string T) false).run Try.prog y.w = .ok (.int .i64 (F T)) y.w := fun y => (hI1.tab.fr (g2 y) (by simp)).look _ (by unfold maxLen; omega)
  have g1 : ∀ (y : Gw G) w', Fr [] y.w w' → G w' := fun y w' f => (gW _).2 ((g2 y).trans f)
  have g0 : G w1.drew := (gW _).2 (Fr.drew _ _)
  have ne : Nonempty (Gw G) := ⟨⟨_, g0⟩⟩
  rw [hF] at hlk
  clear hA' ts
  refine wp_region_gw G (by kernel_rfl) (by kernel_rfl) g0 ?_
  repeat (go_big_quiet_step (first
    | (go_at_call 11; exact gw_call (c2 _) (g1 _))))
  refine wpQuiet_nil ?_
  rintro _ ⟨y, rfl⟩
  have f2 := g2 y
  have F2 := f1.trans f2
  have hI2 : Idl y.w base p b v rs F := hI1.fr f2 (by simp) (by simp) (by simp)
  generalize y.w = w2 at f2 F2 hI2 ⊢
  clear hpa hcell hlk g1 g0 ne gW g2 hI1
  obtain ⟨g, cap, hv, q0, q1, q2, q3⟩ := row_cells hI2 j _ hj
  simp only at q0 q1 q2 q3
  have p0 := hI2.at_.cell 0
  rw [hv] at p0
  clear hv hF hI hI2 hj hlt c2 hf2
  go_wp2_with fail
  go_ret2
  exact ⟨rfl, F2.trans (Fr.alloc _ _ _)⟩
set_option maxRecDepth 100000 in
set_option maxHeartbeats 1000000 in
theorem open_blob (k : Int) (hk : 1 ≤ k ∧ k ≤ 3) (x c : ByteArray) (hx : x.size ≤ 64) (hc : c.size ≤ 4611686018427387904) {base p b : Nat} {v : Value} {rs : List Rw} {F : ByteArray → Int} (j : Nat) (r : Rw) (hj : rs[j]? = some r) (hn : rs.length ≤ 4398046511104) (hF : F (tagX c) = ((j + 1 : Nat) : Int)) (hf : r.1 = k) (hf2 : r.2.1 = x) (hf3 : r.2.2.1 ≠ c) (w : World) (hI : Idl w base p b v rs F) :
    Calls Try.prog 21 #[.pointer (some ⟨p, 0, none⟩), .int .i64 k, .string x, .string c] w fun e w' => e = .returned (.tuple #[.string ⟨#[]⟩, .int .i64 81]) ∧ Fr [] w w' := by
  have c1 := fun w => place_any k hk x hx w
  have c2 := fun w => (tagX_any c hc w).mono (R' := fun e w' => e = .returned (.string (tagX c)) ∧ Fr [] w w') (fun e w' ⟨h1, h2⟩ => ⟨h1, h2 ▸ Fr.refl _ _⟩)
  have ts := tagX_size c
  obtain ⟨T, hT⟩ : ∃ T, T = tagX c := ⟨_, rfl⟩
  rw [← hT] at c2 ts hF
  obtain ⟨r1, r2, r3, r4⟩ := r
  have hlt : j < rs.length := (List.getElem?_eq_some_iff.1 hj).1
  have wj : IntKind.i64.wrap (((j + 1 : Nat) : Int) - 1) = (j : Int) := by rw [IntWalk.i64_in _ (by omega)]; omega
  have hj0 : ¬ ((j + 1 : Nat) : Int) = 0 := by omega
  have ljn : (j : Int) < rs.length := by omega
  obtain ⟨m, hm⟩ : ∃ m : Int, m = ((j + 1 : Nat) : Int) := ⟨_, rfl⟩
  rw [← hm] at wj hj0 hF
  clear hm
  simp only at hf hf2 hf3
  subst hf hf2
  have b1 : (r1 != r1) = false := by simp
  have b2 := str_eq (rfl : r2 = r2)
  have b3 := str_neq hf3
  have hpa0 := part0 hI.at_
  clear hT
  go_enter Try.func21, Try.ntmps21
  go_upto_region 6 with (first
    | (go_at_call 26; refine (c1 _).mono ?_; clear c1; rintro e w1 ⟨rfl, f1⟩)
    | fail)
  have hI1 : Idl w1 base p b v rs F := hI.fr f1 (by simp) (by simp) (by simp)
  obtain ⟨G, hG⟩ : ∃ G : World → Prop, G = Fr [] w1 := ⟨_, rfl⟩
  have gW : ∀ w', G w' ↔ Fr [] w1 w' := fun w' => by rw [hG]
  clear hG
  have g2 : ∀ y : Gw G, Fr [] w1 y.w := fun y => (gW _).1 y.ok
  have hA' : ∀ y : Gw G, At y.w p 62 [v, .map (some b)] := fun y => (g2 y).keep hI1.at_ (by simp)
  have hpa := fun y : Gw G => part0 (hA' y)
  have hcell : ∀ y : Gw G, y.w.cell? ⟨p, 1, none⟩ = some (.map (some b)) := fun y => (hA' y).cell 1
  have hlk : ∀ y : Gw G, (Instr.lookup 58 (.map (some b)) (.string T) false).run Try.prog y.w = .ok (.int .i64 (F T)) y.w := fun y => (hI1.tab.fr (g2 y) (by simp)).look _ (by unfold maxLen; omega)
  have g1 : ∀ (y : Gw G) w', Fr [] y.w w' → G w' := fun y w' f => (gW _).2 ((g2 y).trans f)
  have g0 : G w1.drew := (gW _).2 (Fr.drew _ _)
  have ne : Nonempty (Gw G) := ⟨⟨_, g0⟩⟩
  rw [hF] at hlk
  clear hA' ts
  refine wp_region_gw G (by kernel_rfl) (by kernel_rfl) g0 ?_
  repeat (go_big_quiet_step (first
    | (go_at_call 11; exact gw_call (c2 _) (g1 _))))
  refine wpQuiet_nil ?_
  rintro _ ⟨y, rfl⟩
  have f2 := g2 y
  have F2 := f1.trans f2
  have hI2 : Idl y.w base p b v rs F := hI1.fr f2 (by simp) (by simp) (by simp)
  generalize y.w = w2 at f2 F2 hI2 ⊢
  clear hpa hcell hlk g1 g0 ne gW g2 hI1
  obtain ⟨g, cap, hv, q0, q1, q2, q3⟩ := row_cells hI2 j _ hj
  simp only at q0 q1 q2 q3
  have p0 := hI2.at_.cell 0
  rw [hv] at p0
  clear hv hF hI hI2 hj hlt c2 hf3
  go_wp2_with fail
  go_ret2
  exact ⟨rfl, F2.trans (Fr.alloc _ _ _)⟩
/-- Open of anything. -/
theorem open_all (k : Int) (hk : 1 ≤ k ∧ k ≤ 3) (x c : ByteArray) (hx : x.size ≤ 64) (hc : c.size ≤ 4611686018427387904) {rs : List Rw} {F : ByteArray → Int} (hn : rs.length ≤ 4398046511104) (hG : Good rs F) :
    ∃ y d, ((∃ r ∈ rs, Fits r k x c ∧ y = r.2.2.2 ∧ d = 0) ∨ ((∀ r ∈ rs, ¬ Fits r k x c) ∧ y = ⟨#[]⟩ ∧ d = 81)) ∧ ∀ {base p b : Nat} {v : Value} (w : World), Idl w base p b v rs F →
    Calls Try.prog 21 #[.pointer (some ⟨p, 0, none⟩), .int .i64 k, .string x, .string c] w fun e w' => e = .returned (.tuple #[.string y, .int .i64 d]) ∧ Fr [] w w' := by
  have one : ∀ j r, rs[j]? = some r → F (tagX c) = ((j + 1 : Nat) : Int) → ¬ Fits r k x c → ∀ r' ∈ rs, ¬ Fits r' k x c := by
    intro j r hj hF hr r' hr' hf
    obtain ⟨i, hi⟩ := List.mem_iff_getElem?.1 hr'
    have := hG.2 i r' hi
    rw [hf.2.2, hF] at this
    obtain rfl : j = i := by omega
    rw [hj] at hi
    injection hi with hi
    exact hr (hi ▸ hf)
  rcases hG.1 (tagX c) with h0 | ⟨j, r, hj, hF, ht⟩
  · refine ⟨⟨#[]⟩, 81, .inr ⟨fun r hr hf => ?_, rfl, rfl⟩, fun w hI => open_none k hk x c hx hc h0 w hI⟩
    obtain ⟨i, hi⟩ := List.mem_iff_getElem?.1 hr
    have := hG.2 i r hi
    rw [hf.2.2, h0] at this
    omega
  · by_cases h1 : r.1 = k
    · by_cases h2 : r.2.1 = x
      · by_cases h3 : r.2.2.1 = c
        · exact ⟨r.2.2.2, 0, .inl ⟨r, List.mem_iff_getElem?.2 ⟨j, hj⟩, ⟨h1, h2, h3⟩, rfl, rfl⟩, fun w hI => open_hit k hk x c hx hc j r hj hn hF ⟨h1, h2, h3⟩ w hI⟩
        · exact ⟨⟨#[]⟩, 81, .inr ⟨one j r hj hF (fun h => h3 h.2.2), rfl, rfl⟩, fun w hI => open_blob k hk x c hx hc j r hj hn hF h1 h2 h3 w hI⟩
      · exact ⟨⟨#[]⟩, 81, .inr ⟨one j r hj hF (fun h => h2 h.2.1), rfl, rfl⟩, fun w hI => open_name k hk x c hx hc j r hj hn hF h1 h2 w hI⟩
    · exact ⟨⟨#[]⟩, 81, .inr ⟨one j r hj hF (fun h => h1 h.1), rfl, rfl⟩, fun w hI => open_kind k hk x c hx hc j r hj hn hF h1 w hI⟩
end Go.Proofs.Ythalpgandfbkdaa
