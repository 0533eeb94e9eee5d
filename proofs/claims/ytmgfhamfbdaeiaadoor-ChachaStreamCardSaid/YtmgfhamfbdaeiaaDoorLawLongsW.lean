/- The law ChachaLongs walked. -/
import Derived.Test.YtmgfhamfbdaeiaaDoorLawXorsW
namespace Go.Proofs.YtmgfhamfbdaeiaaDoor
open Go.RowKit Go.Lib Base
set_option linter.unusedVariables false
set_option linter.unusedSimpArgs false

/-- The key that HChaCha makes of the first sixteen bytes. -/
def subKey (k n : ByteArray) : ByteArray := ⟨((hch k.data.toList (n.extract 0 16).data.toList).flatMap bytes4).toArray⟩
def subNonce (n : ByteArray) : ByteArray := ⟨#[0, 0, 0, 0]⟩ ++ n.extract 16 n.size

set_option maxRecDepth 100000 in
theorem xxor_ok (k n d : ByteArray) (x : Int) (s : ByteArray) (c : Int) (hk : k.size = 32) (hn : n.size = 24)
    (hx : ∀ w, Rounds w → Calls Tryd.prog 24 #[.string (subKey k n), .int .i64 x, .string (subNonce n), .string d] w fun e w' => e = .returned (.tuple #[.string s, .int .i64 c]) ∧ Fr [] w w')
    (w : World) (ht : Rounds w) :
    Calls Tryd.prog 27 #[.string k, .int .i64 x, .string n, .string d] w fun e w' => e = .returned (.tuple #[.string s, .int .i64 c]) ∧ Fr [] w w' := by
  have hh := fun w h => hash_ok k (n.extract 0 16) hk (by simp [hn]) w h
  have hk' : (⟨((hch k.data.toList (n.extract 0 16).data.toList).flatMap bytes4).toArray⟩ : ByteArray) = subKey k n := rfl
  rw [hk'] at hh
  have e24 : n.extract 16 24 = n.extract 16 n.size := by rw [hn]
  generalize subKey k n = sk at hh hx
  have hn' : (⟨#[0, 0, 0, 0]⟩ : ByteArray) ++ n.extract 16 n.size = subNonce n := rfl
  go_enter Tryd.func27, Tryd.ntmps27
  go_wp2_with (first
    | (go_at_call 43; refine (sized_ok k n 24 hk hn _).mono ?_; rintro e w' ⟨rfl, q1, rfl⟩)
    | (go_at_call 19; refine (hh _ (ht.keep (Fr.drewN [] w q1) (by simp))).mono ?_; rintro e w2 ⟨rfl, f2⟩)
    | (go_at_call 24; refine (hx _ (ht.keep ((Fr.drewN [] w q1).trans f2) (by simp))).mono ?_; rintro e w3 ⟨rfl, f3⟩)
    | fail)
  go_ret2
  exact ⟨rfl, ((Fr.drewN [] w q1).trans f2).trans f3⟩

set_option maxRecDepth 100000 in
theorem refxxor_ok (k n d : ByteArray) (x : Int) (s : ByteArray) (c : Int) (hk : k.size = 32) (hn : n.size = 24) (h0 : 0 ≤ x) (h1 : x < 4294967296)
    (hx : ∀ w, Places w → Calls Tryd.prog 25 #[.string (subKey k n), .int .i64 x, .string (subNonce n), .string d] w fun e w' => e = .returned (.tuple #[.string s, .int .i64 c]) ∧ Fr [] w w')
    (w : World) (ht : Places w) :
    Calls Tryd.prog 28 #[.string k, .int .i64 x, .string n, .string d] w fun e w' => e = .returned (.tuple #[.string s, .int .i64 c]) ∧ Fr [] w w' := by
  have hh := fun w h => refhash_ok k (n.extract 0 16) hk (by simp [hn]) w h
  have hk' : (⟨((hch k.data.toList (n.extract 0 16).data.toList).flatMap bytes4).toArray⟩ : ByteArray) = subKey k n := rfl
  rw [hk'] at hh
  have e24 : n.extract 16 24 = n.extract 16 n.size := by rw [hn]
  generalize subKey k n = sk at hh hx
  have hn' : (⟨#[0, 0, 0, 0]⟩ : ByteArray) ++ n.extract 16 n.size = subNonce n := rfl
  go_enter Tryd.func28, Tryd.ntmps28
  go_wp2_with (first
    | (go_at_call 47; refine (wrong_ok k n x 24 hk hn h0 h1 _).mono ?_; rintro e w' ⟨rfl, q1, rfl⟩)
    | (go_at_call 20; refine (hh _ (ht.keep (Fr.drewN [] w q1) (by simp))).mono ?_; rintro e w2 ⟨rfl, f2⟩)
    | (go_at_call 25; refine (hx _ (ht.keep ((Fr.drewN [] w q1).trans f2) (by simp))).mono ?_; rintro e w3 ⟨rfl, f3⟩)
    | fail)
  go_ret2
  exact ⟨rfl, ((Fr.drewN [] w q1).trans f2).trans f3⟩

theorem xxor_key (k n d : ByteArray) (c : Int) (hk : k.size ≠ 32) (w : World) :
    Calls Tryd.prog 27 #[.string k, .int .i64 c, .string n, .string d] w fun e w' => e = .returned (.tuple #[.string ⟨#[]⟩, .int .i64 40]) ∧ Fr [] w w' := by
  go_enter Tryd.func27, Tryd.ntmps27
  go_wp2_with (first
    | (go_at_call 43; refine (sized_key k n 24 hk _).mono ?_; rintro e w' ⟨rfl, q1, rfl⟩)
    | fail)
  go_ret2
  exact ⟨rfl, Fr.drewN _ _ _⟩
theorem xxor_nonce (k n d : ByteArray) (c : Int) (hk : k.size = 32) (hn : n.size ≠ 24) (w : World) :
    Calls Tryd.prog 27 #[.string k, .int .i64 c, .string n, .string d] w fun e w' => e = .returned (.tuple #[.string ⟨#[]⟩, .int .i64 41]) ∧ Fr [] w w' := by
  go_enter Tryd.func27, Tryd.ntmps27
  go_wp2_with (first
    | (go_at_call 43; refine (sized_nonce k n 24 hk hn _).mono ?_; rintro e w' ⟨rfl, q1, rfl⟩)
    | fail)
  go_ret2
  exact ⟨rfl, Fr.drewN _ _ _⟩
theorem refxxor_key (k n d : ByteArray) (c : Int) (hk : k.size ≠ 32) (w : World) :
    Calls Tryd.prog 28 #[.string k, .int .i64 c, .string n, .string d] w fun e w' => e = .returned (.tuple #[.string ⟨#[]⟩, .int .i64 40]) ∧ Fr [] w w' := by
  go_enter Tryd.func28, Tryd.ntmps28
  go_wp2_with (first
    | (go_at_call 47; refine (wrong_key k n c 24 hk _).mono ?_; rintro e w' ⟨rfl, q1, rfl⟩)
    | fail)
  go_ret2
  exact ⟨rfl, Fr.drewN _ _ _⟩
theorem refxxor_nonce (k n d : ByteArray) (c : Int) (hk : k.size = 32) (hn : n.size ≠ 24) (w : World) :
    Calls Tryd.prog 28 #[.string k, .int .i64 c, .string n, .string d] w fun e w' => e = .returned (.tuple #[.string ⟨#[]⟩, .int .i64 41]) ∧ Fr [] w w' := by
  go_enter Tryd.func28, Tryd.ntmps28
  go_wp2_with (first
    | (go_at_call 47; refine (wrong_nonce k n c 24 hk hn _).mono ?_; rintro e w' ⟨rfl, q1, rfl⟩)
    | fail)
  go_ret2
  exact ⟨rfl, Fr.drewN _ _ _⟩
theorem refxxor_count (k n d : ByteArray) (c : Int) (hk : k.size = 32) (hn : n.size = 24) (hc : c < 0 ∨ 4294967296 ≤ c) (w : World) :
    Calls Tryd.prog 28 #[.string k, .int .i64 c, .string n, .string d] w fun e w' => e = .returned (.tuple #[.string ⟨#[]⟩, .int .i64 42]) ∧ Fr [] w w' := by
  go_enter Tryd.func28, Tryd.ntmps28
  go_wp2_with (first
    | (go_at_call 47; refine (wrong_counter k n c 24 hk hn hc _).mono ?_; rintro e w' ⟨rfl, q1, rfl⟩)
    | fail)
  go_ret2
  exact ⟨rfl, Fr.drewN _ _ _⟩

theorem subKey_size (k n : ByteArray) (hk : k.size = 32) (hn : n.size = 24) : (subKey k n).size = 32 := by
  have h8 := words_len 8 k.data.toList (by simpa using hk)
  have h4 := words_len 4 (n.extract 0 16).data.toList (by
    have : (n.extract 0 16).size = 16 := by simp [hn]
    simpa using this)
  show (List.flatMap bytes4 (hch k.data.toList (n.extract 0 16).data.toList)).toArray.size = 32
  rw [List.size_toArray, bytes4_len]
  unfold hch
  have hl : (doubles (heads ++ words k.data.toList ++ words (n.extract 0 16).data.toList) 10).length = 16 := by
    rw [doubles_len, List.length_append, List.length_append, h8, h4]; rfl
  dsimp only
  generalize doubles (heads ++ words k.data.toList ++ words (n.extract 0 16).data.toList) 10 = s at hl ⊢
  simp [hl]
theorem subNonce_size (n : ByteArray) (hn : n.size = 24) : (subNonce n).size = 12 := by
  unfold subNonce
  rw [ByteArray.size_append]
  show 4 + (n.extract 16 n.size).size = 12
  simp [hn]

theorem xxor_both (k n d : ByteArray) (hd : d.size ≤ 140737488351232) (x : Int) : ∃ (s : ByteArray) (c : Int), 0 ≤ c ∧ c < 100 ∧
    (∀ w, Rounds w → Calls Tryd.prog 27 #[.string k, .int .i64 x, .string n, .string d] w fun e w' => e = .returned (.tuple #[.string s, .int .i64 c]) ∧ Fr [] w w') ∧
    (∀ w, Places w → Calls Tryd.prog 28 #[.string k, .int .i64 x, .string n, .string d] w fun e w' => e = .returned (.tuple #[.string s, .int .i64 c]) ∧ Fr [] w w') := by
  by_cases hk : k.size = 32
  · by_cases hn : n.size = 24
    · have hk' := subKey_size k n hk hn
      have hn' := subNonce_size n hn
      by_cases hx : x < 0 ∨ 4294967296 ≤ x
      · exact ⟨_, 42, by omega, by omega, fun w h => xxor_ok k n d x _ 42 hk hn (fun w h => xor_count _ _ d x hk' hn' hx w) w h, fun w h => refxxor_count k n d x hk hn hx w⟩
      · obtain ⟨s, c, c0, c1, h1, h2⟩ := xor_both (subKey k n) (subNonce n) d hd x
        exact ⟨s, c, c0, c1, fun w h => xxor_ok k n d x s c hk hn h1 w h, fun w h => refxxor_ok k n d x s c hk hn (by omega) (by omega) h2 w h⟩
    · exact ⟨_, 41, by omega, by omega, fun w h => xxor_nonce k n d x hk hn w, fun w h => refxxor_nonce k n d x hk hn w⟩
  · exact ⟨_, 40, by omega, by omega, fun w h => xxor_key k n d x hk w, fun w h => refxxor_key k n d x hk w⟩

set_option maxRecDepth 100000 in
set_option maxHeartbeats 1000000 in
theorem longs_law (k : ByteArray) (_ : k.size ≤ 140737488351232) (x : Int) (_ : (Lit.int .i64 x).wf = true) (n : ByteArray) (_ : n.size ≤ 140737488351232) (d : ByteArray) (hd : d.size ≤ 140737488351232) (w : World) (hP : Places w) (hR : Rounds w) :
    Calls Tryd.prog 7 #[.string k, .int .i64 x, .string n, .string d] w fun e w' => e = .returned (.bool true) ∧ Fr [] w w' := by
  obtain ⟨s, c, c0, c1, h1, h2⟩ := xxor_both k n d hd x
  go_enter Tryd.func7, Tryd.ntmps7
  go_wp2_with (first
    | (go_at_call 27; refine (h1 _ (hR.keep (Fr.drewN [] w 0) (by simp))).mono ?_; rintro e w1 ⟨rfl, f1⟩)
    | (go_at_call 28; refine (h2 _ (hP.keep f1 (by simp))).mono ?_; rintro e w2 ⟨rfl, f2⟩)
    | (go_at_call 21; refine (num4_any c c0 c1 _).mono ?_; rintro e w3 ⟨rfl, q, rfl⟩)
    | fail)
  go_ret
  exact ⟨rfl, f1.trans (f2.trans (Fr.drewN _ _ _))⟩
end Go.Proofs.YtmgfhamfbdaeiaaDoor
