/- What the laws of layer 6 use: a session for either nonce, what was sealed is opened. -/
import Derived.Test.YtichgiecohhmgaaDoorAeadD
import Derived.Test.YtichgiecohhmgaaDoorSized6
namespace Go.Proofs.YtichgiecohhmgaaDoor
open Go.RowKit Go.Lib Go.Joins Base
set_option linter.unusedVariables false
set_option linter.unusedSimpArgs false

theorem num6_any (c : Int) (w : World) : Calls Tryd.prog 12 #[.int .i64 c] w fun e w' => e = .returned (.int .i64 c) ∧ w = w' := by
  go_enter Tryd.func12, Tryd.ntmps12
  go_wp2
  go_ret
  exact ⟨rfl, rfl⟩
theorem sKey_size (k n : ByteArray) (hk : k.size = 32) (hn : n.size = 24) : (sKey k n).size = 32 := by
  have h8 := words_len 8 k.data.toList (by simpa using hk)
  have h4 := words_len 4 (n.extract 0 16).data.toList (by
    have : (n.extract 0 16).size = 16 := by simp [hn]
    simpa using this)
  show (List.flatMap bytes4 (hch k.data.toList (n.extract 0 16).data.toList)).toArray.size = 32
  rw [List.size_toArray, bytes4_len]
  unfold hch
  have hl : (doubles (heads ++ words k.data.toList ++ words (n.extract 0 16).data.toList) 10).length = 16 := by
    rw [doubles_len, List.length_append, List.length_append, h8, h4]; rfl
  dsimp only
  generalize doubles (heads ++ words k.data.toList ++ words (n.extract 0 16).data.toList) 10 = s at hl ⊢
  simp [hl]
theorem sNonce_size (n : ByteArray) (hn : n.size = 24) : (sNonce n).size = 12 := by
  unfold sNonce
  rw [ByteArray.size_append]
  show 4 + (n.extract 16 n.size).size = 12
  simp [hn]
theorem beg_any (k n : ByteArray) (hk : k.size = 32) (hn : n.size = 12 ∨ n.size = 24) : ∃ K N, Begins k n K N ∧ K.size = 32 ∧ N.size = 12 := by
  rcases hn with hn | hn
  · exact ⟨k, n, fun w _ => begin_short k n hk hn w, hk, hn⟩
  · exact ⟨sKey k n, sNonce n, fun w ht => begin_long k n hk hn w ht, sKey_size k n hk hn, sNonce_size n hn⟩
theorem nonced_any (s : ByteArray) (long : Bool) (hs : s.size ≤ 140737488351232) (w : World) :
    Calls Tryd.prog 21 #[.string s, .bool long] w fun e w' => ∃ n : ByteArray, e = .returned (.string n) ∧ (n.size = 12 ∨ n.size = 24) ∧ n = ⟨(sizedL s.data.toList (if long then 24 else 12)).toArray⟩ ∧ Fr [] w w' := by
  have c24 := sized_any s 24 hs (by omega)
  have c12 := sized_any s 12 hs (by omega)
  rw [show ((24 : Nat) : Int) = 24 from rfl] at c24
  rw [show ((12 : Nat) : Int) = 12 from rfl] at c12
  cases long with
  | true =>
    go_enter Tryd.func21, Tryd.ntmps21
    go_wp2_with (first
      | (go_at_call 13; refine (c24 _).mono ?_; rintro e w1 ⟨rfl, f1⟩)
      | fail)
    go_ret
    exact ⟨_, rfl, .inr (by rw [size_of, sizedL_len]), rfl, f1⟩
  | false =>
    go_enter Tryd.func21, Tryd.ntmps21
    go_wp2_with (first
      | (go_at_call 13; refine (c12 _).mono ?_; rintro e w1 ⟨rfl, f1⟩)
      | fail)
    go_ret
    exact ⟨_, rfl, .inl (by rw [size_of, sizedL_len]), rfl, f1⟩
theorem toList_of (l : List UInt8) : (⟨l.toArray⟩ : ByteArray).data.toList = l := by simp
/-- The two parts of what was sealed. -/
theorem sealed_parts (K N a p : List UInt8) (x : ByteArray) (hx : x = ⟨(sealOf K N a p).toArray⟩) : x.size = p.length + 16 ∧ x.extract 0 (x.size - 16) = ⟨(cipherOf K N p).toArray⟩ ∧ x.extract (x.size - 16) x.size = ⟨(tagOf K N a (cipherOf K N p)).toArray⟩ := by
  have hs : x.size = p.length + 16 := by rw [hx, size_of, sealOf_len]
  have hd : x.data.toList = sealOf K N a p := by rw [hx]
  refine ⟨hs, ?_, ?_⟩
  · apply ByteArray.ext
    apply Array.toList_inj.1
    rw [ByteArray.data_extract, Array.toList_extract, List.extract_eq_take_drop, hd, List.drop_zero, sealOf]
    rw [List.take_left' (by rw [cipherOf_len]; omega)]
  · apply ByteArray.ext
    apply Array.toList_inj.1
    rw [ByteArray.data_extract, Array.toList_extract, List.extract_eq_take_drop, hd, sealOf]
    rw [List.drop_left' (by rw [cipherOf_len]; omega), List.take_of_length_le (by rw [tagOf_len]; omega)]
theorem open_sealed (k n a p K N : ByteArray) (x : ByteArray) (hx : x = ⟨(sealOf K.data.toList N.data.toList a.data.toList p.data.toList).toArray⟩) (hB : Begins k n K N) (hK : K.size = 32) (hN : N.size = 12) (ha : a.size ≤ 1048576) (hp : p.size ≤ 1048576) (w : World) (ht : Rounds w) :
    Calls Tryd.prog 19 #[.string k, .string n, .string a, .string x] w fun e w' => e = .returned (.tuple #[.string p, .int .i64 0]) ∧ Fr [] w w' := by
  obtain ⟨h1, h2, h3⟩ := sealed_parts _ _ _ _ x hx
  have hpl : p.data.toList.length = p.size := by simp
  refine (open_any k n a x K N hB hK hN ha (by omega) (by omega) w ht).mono ?_
  rintro e w' (⟨_, rfl, f⟩ | ⟨hne, _⟩)
  · refine ⟨?_, f⟩
    rw [h2, toList_of, cipher_back]
  · exact absurd (by rw [h3, h2, toList_of]) hne
end Go.Proofs.YtichgiecohhmgaaDoor
