/- The law AeadOpens walked. -/
import Derived.Test.YtichgiecohhmgaaDoorDoc6
import Derived.Test.YtichgiecohhmgaaDoorOwnB
namespace Go.Proofs.YtichgiecohhmgaaDoor
open Go.RowKit Go.Lib Go.Joins Base
set_option linter.unusedVariables false
set_option linter.unusedSimpArgs false

theorem tmod_range (n H : Int) (h : 0 < H) : -H < n.tmod H ∧ n.tmod H < H := by
  refine ⟨?_, Int.tmod_lt_of_pos _ h⟩
  have := Int.tmod_lt_of_pos (-n) h
  rw [Int.neg_tmod] at this; omega
theorem u8_of (n : Int) : ∃ y : UInt8, IntKind.u8.wrap n = bt y := by
  have h : IntKind.u8.wrap n = n % 256 := by simp [IntKind.wrap, IntKind.signed, IntKind.bits]
  refine ⟨UInt8.ofNat (n % 256).toNat, ?_⟩
  rw [h]
  unfold bt
  rw [UInt8.toNat_ofNat']
  omega
/-- []byte(s), with its capacity. -/
theorem run_ofStrC {P : Program} (w : World) (src dst e : TypeId) (s : ByteArray) (hs : P.underlying src = some .string) (hd : P.underlying dst = some (.slice e)) (he : P.underlying e = some (.int .u8)) (hm : s.size ≤ 140737488355328) :
    ∃ cap rest W, cap = s.size + rest.length ∧ cap ≤ maxLen ∧ (convert src dst (.string s)).run P w = .ok (.slice (some ⟨w.heap.size, 0, none⟩) s.size cap) W ∧ AtS W w.heap.size e (byteCells s.data.toList ++ rest) ∧ (∀ S, Fr S w W) := by
  have hge := grownCap_ge w s.size 0 e
  refine ⟨grownCap w s.size 0 e, List.replicate (grownCap w s.size 0 e - s.size) (.int .u8 0), _, by simp; omega, grownCap_le_maxLen w s.size 0 e (by unfold maxLen; omega), run_bytes_of_string w src dst e s hs hd he, ?_, fun S => (Fr.drew S w).trans (Fr.alloc S _ _)⟩
  have e1 : bytesRow s (grownCap w s.size 0 e) = (byteCells s.data.toList ++ List.replicate (grownCap w s.size 0 e - s.size) (Value.int .u8 0)).toArray := by
    apply Array.toList_inj.1
    simp [bytesRow, byteCells]
  rw [e1, List.size_toArray]
  unfold AtS
  show (w.heap.push _)[w.heap.size]? = _
  simp
set_option maxRecDepth 100000 in
set_option maxHeartbeats 2000000 in
theorem opens_law {w : World} (key : ByteArray) (hkey : key.size ≤ 140737488351232) (nonce : ByteArray) (hnonce : nonce.size ≤ 140737488351232) (a : ByteArray) (ha0 : a.size ≤ 140737488351232) (p : ByteArray) (hp0 : p.size ≤ 140737488351232) (at_ : Int) (hat : (Lit.int .i64 at_).wf = true) (by_ : Int) (hby : (Lit.int .i64 by_).wf = true) (hP : Places w) (ht : Rounds w) :
    Calls Tryd.prog 5 #[.string key, .string nonce, .string a, .string p, .int .i64 at_, .int .i64 by_] w fun e w' => e = .returned (.bool true) ∧ Fr [] w w' := by
  obtain ⟨s, c, h1, h2⟩ := open_both key nonce a p (by omega)
  obtain ⟨S, g, ⟨_, h3⟩, hS⟩ := seal_both key nonce a p
  have HS := Lib.hid hS
  clear hS
  have lb := str_eq (rfl : s = s)
  go_enter Tryd.func5, Tryd.ntmps5
  by_cases hg : g = 0
  · obtain ⟨hSs, hpl⟩ := HS.out hg
    subst hg
    go_upto_region 8 with (first
      | (go_at_call 19; refine (h1 _ ht).mono ?_; clear h1; rintro e w1 ⟨rfl, f1⟩)
      | (go_at_call 20; refine (h2 _ (hP.keep f1 (by simp))).mono ?_; clear h2; rintro e w2 ⟨rfl, f2⟩; have F2 := f1.trans f2)
      | (go_at_call 12; refine (num6_any c _).mono ?_; rintro e w2' ⟨rfl, rfl⟩)
      | (go_at_call 11; refine (h3 _ (hP.keep F2 (by simp))).mono ?_; clear h3; rintro e w3 ⟨rfl, f3⟩; have F3 := F2.trans f3)
      | fail)
    clear f1 F2 f3
    obtain ⟨cap, rest, W, hcap, hcm, hcv, oW, fW⟩ := run_ofStrC (P := Tryd.prog) w3 9 35 5 S Tryd.underlying9 Tryd.underlying35 Tryd.underlying5 (by omega)
    obtain ⟨G, hG⟩ : ∃ G, G = w3.heap.size := ⟨_, rfl⟩
    have hGw : w.heap.size ≤ G := by rw [hG]; exact F3.size
    rw [← hG] at hcv oW
    have fW0 := fW []
    clear fW hG
    obtain ⟨L, hL⟩ : ∃ L, L = S.data.toList := ⟨_, rfl⟩
    have hLl : L.length = S.size := by rw [hL]; simp
    rw [← hL] at oW
    obtain ⟨n, hn⟩ : ∃ n, n = S.size := ⟨_, rfl⟩
    rw [← hn] at hcv hcap hLl
    have hn0 : 0 < n ∧ n ≤ 1048592 := by omega
    obtain ⟨r1, r2⟩ := tmod_range at_ n (by omega)
    have e1 : ∀ t, binOp .rem t (.int .i64 at_) (.int .i64 n) = pure (.int .i64 (at_.tmod n)) := by
      intro t
      simp only [binOp, Op.intDiv]
      rw [if_neg (by simp)]
      rw [if_neg (by omega)]
    obtain ⟨q, hq⟩ : ∃ q : Nat, at_.tmod n + n = (q : Int) := ⟨(at_.tmod n + n).toNat, by omega⟩
    have e2 : IntKind.i64.wrap (at_.tmod n + n) = (q : Int) := by rw [hq]; exact IntWalk.i64_in _ (by omega)
    obtain ⟨j, hj⟩ : ∃ j, j = q % n := ⟨_, rfl⟩
    have hjn : j < n := by rw [hj]; exact Nat.mod_lt _ (by omega)
    have e3 : ∀ t, binOp .rem t (.int .i64 (q : Int)) (.int .i64 n) = pure (.int .i64 (j : Int)) := fun t => by rw [hj]; exact remJ q n (by omega) t
    generalize at_.tmod n = m at e1 e2 r1 r2 hq
    obtain ⟨x, hx⟩ : ∃ x, x = L.getD j 0 := ⟨_, rfl⟩
    obtain ⟨y, hy⟩ := u8_of by_
    have cW : W.cell? ⟨G, j, none⟩ = some (.int .u8 (bt x)) := by
      rw [oW.cell, List.getElem?_append_left (by rw [byteCells_length]; omega), byteCells_get _ _ (by omega), hx]
    have zW : W.frozen? ⟨G, j, none⟩ = false := oW.frozen j (by rw [List.length_append, byteCells_length]; omega)
    have oX := oW.setCell j (.int .u8 (bt (x ^^^ y)))
    rw [List.set_append_left _ _ (by rw [byteCells_length]; omega), byteCells_set] at oX
    obtain ⟨M, hM⟩ : ∃ M, M = L.set j (x ^^^ y) := ⟨_, rfl⟩
    rw [← hM] at oX
    have hMl : M.length = n := by rw [hM, List.length_set, hLl]
    have fX := ((F3.trans fW0).new (S := [G]) (Fr.setCell [G] W ⟨G, j, none⟩ (.int .u8 (bt (x ^^^ y))) (.inl (by simp))) (by simp; exact hGw))
    have hcr : cap = M.length + rest.length := by omega
    have oB : OwnB (W.setCell ⟨G, j, none⟩ (.int .u8 (bt (x ^^^ y)))) G (.slice (some ⟨G, 0, none⟩) M.length cap) M := OwnB.ofStr oX G (Nat.le_refl _) hcr hcm
    have l1 : (j : Int) < n := by omega
    have l2 : ¬ (n : Int) = 0 := by omega
    have lz : (n : Int) ≤ cap := by omega
    have HH := Lib.hid (And.intro hMl (And.intro hn0 (And.intro hn hSs)))
    clear hcr hMl hM hx hn hSs hpl hj hq hL hLl hcap r1 r2 hn0 oW oX HS
    go_upto_region 11 with fail
    generalize W.setCell ⟨G, j, none⟩ (.int .u8 (bt (x ^^^ y))) = W2 at oB fX ⊢
    have tM : M.take n = M := List.take_of_length_le (by rw [HH.out.1]; exact Nat.le_refl _)
    have s1 : ∀ w', OwnB w' G (.slice (some ⟨G, 0, none⟩) M.length cap) M → (convert 35 9 (.slice (some ⟨G, 0, none⟩) n cap)).run Tryd.prog w' = .ok (.string ⟨M.toArray⟩) w' := fun w' h => by
      have := run_strOwnB (P := Tryd.prog) Tryd.underlying35 Tryd.underlying5 (d := 9) Tryd.underlying9 (n := n) (cap2 := cap) h (by rw [HH.out.1]; exact Nat.le_refl _)
      rw [tM] at this
      exact this
    have s2 := s1 _ oB
    obtain ⟨B2, hB2⟩ : ∃ B2 : ByteArray, B2 = ⟨M.toArray⟩ := ⟨_, rfl⟩
    have hBs : B2.size ≤ 4611686018427387904 := by rw [hB2, size_of, HH.out.1]; have := HH.out.2.1; omega
    obtain ⟨u, d, g1, g2⟩ := open_both key nonce a B2 hBs
    have lu := str_eq (rfl : u = u)
    rw [← hB2] at s1 s2
    clear tM hB2 hBs
    go_wp2_with (first
      | (go_at_call 19; refine (g1 _ (ht.keep fX (by simp))).mono ?_; clear g1; rintro e w5 ⟨rfl, f5⟩; have s3 := s1 _ (oB.keep f5); have F5 := fX.trans f5)
      | (go_at_call 20; refine (g2 _ (hP.keep F5 (by simp))).mono ?_; clear g2; rintro e w6 ⟨rfl, f6⟩; have F6 := F5.trans f6)
      | (go_at_call 12; refine (num6_any d _).mono ?_; rintro e w7 ⟨rfl, rfl⟩)
      | fail)
    go_ret
    exact ⟨by first | rfl | (simp [lu]; done), F6⟩
  · go_wp2_with (first
      | (go_at_call 19; refine (h1 _ ht).mono ?_; clear h1; rintro e w1 ⟨rfl, f1⟩)
      | (go_at_call 20; refine (h2 _ (hP.keep f1 (by simp))).mono ?_; clear h2; rintro e w2 ⟨rfl, f2⟩; have F2 := f1.trans f2)
      | (go_at_call 12; refine (num6_any c _).mono ?_; rintro e w2' ⟨rfl, rfl⟩)
      | (go_at_call 11; refine (h3 _ (hP.keep F2 (by simp))).mono ?_; clear h3; rintro e w3 ⟨rfl, f3⟩)
      | fail)
    go_ret
    exact ⟨rfl, F2.trans f3⟩
end Go.Proofs.YtichgiecohhmgaaDoor
