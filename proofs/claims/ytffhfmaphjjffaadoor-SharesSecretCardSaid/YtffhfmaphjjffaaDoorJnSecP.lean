/- The coins that explain shares are the coefficients of the polynomials through them and the key, in plain Lean. No walk here. -/
import Derived.Test.YtffhfmaphjjffaaDoorJnExpP
import Derived.Test.YtffhfmaphjjffaaDoorJnMixP
namespace Go.Proofs.YtffhfmaphjjffaaDoor
open Go.RowKit Go.Lib Go.Joins Base Gf
set_option linter.unusedVariables false
set_option linter.unusedSimpArgs false

theorem zeros_get (j : Nat) (h : j < 32) : (zerosB 32).getD j 0 = 0 := by
  unfold zerosB; rw [List.getD, List.getElem?_replicate, if_pos h]; rfl
theorem stepPt_get (low : List UInt8) (p : Pt) (j : Nat) (hj : j < 32) (h1 : low.length = 32) (h2 : p.2.length = 32) : (stepPt low p).2.getD j 0 = gmul (p.2.getD j 0 ^^^ low.getD j 0) (ginv p.1) := by
  show (timesR (plusR p.2 low 1) (ginv p.1)).getD j 0 = _
  rw [timesR, plusR_get _ _ _ _ (by simp [zerosB]; omega) (by rw [plusR_len _ _ _ (by omega)]; omega), zeros_get j hj, plusR_get _ _ _ _ (by omega) (by omega), gmul_one, UInt8.zero_xor]
theorem xsOf_steps (low : List UInt8) (L : List Pt) : xsOf (stepPts low L) = xsOf L := by simp [xsOf, stepPts, stepPt]
theorem xsOf_tail (L : List Pt) : xsOf L.tail = (xsOf L).tail := by simp [xsOf]
/-- Row by row they are the coefficients above the lowest, of any polynomials through the points and the value at 0. -/
theorem expl_poly : ∀ (n : Nat) (L : List Pt) (low : List UInt8) (P : Nat → List UInt8), L.length = n → (xsOf L).Nodup → (∀ x ∈ xsOf L, x ≠ 0) → (∀ p ∈ L, p.2.length = 32) → low.length = 32 → (∀ j, j < 32 → (P j).length = n + 1) →
    (∀ j, j < 32 → low.getD j 0 = (P j).getD 0 0) → (∀ p ∈ L, ∀ j, j < 32 → p.2.getD j 0 = ev (P j) p.1) → ∀ t, t < n → ∀ j, j < 32 → (explN n low L).getD (32 * t + j) 0 = (P j).getD (t + 1) 0
  | 0, _, _, _, _, _, _, _, _, _, _, _, t, ht, _, _ => by omega
  | n + 1, L, low, P, hL, hn, h0, h32, hlow, hP, hP0, hv, t, ht, j, hj => by
    obtain ⟨S, hS⟩ : ∃ S, S = stepPts low L := ⟨_, rfl⟩
    have hSl : S.length = n + 1 := by rw [hS, stepPts_len, hL]
    have hSx : xsOf S = xsOf L := by rw [hS, xsOf_steps]
    have hS32 : ∀ p ∈ S, p.2.length = 32 := by rw [hS]; exact stepPts_all low L hlow h32
    have hSv : ∀ p ∈ S, ∀ j, j < 32 → p.2.getD j 0 = ev ((P j).tail) p.1 := fun p hp j hj => by
      rw [hS] at hp
      obtain ⟨r, hr, rfl⟩ := List.mem_map.1 hp
      rw [stepPt_get low r j hj hlow (h32 r hr), hv r hr j hj, hP0 j hj]
      show _ = ev ((P j).tail) r.1
      have hl := hP j hj
      obtain ⟨a, c, hac⟩ : ∃ a c, P j = a :: c := by
        cases h : P j with
        | nil => rw [h] at hl; simp at hl
        | cons a c => exact ⟨a, c, rfl⟩
      rw [hac]
      show gmul (ev (a :: c) r.1 ^^^ a) (ginv r.1) = ev c r.1
      have hx0 : r.1 ≠ 0 := h0 r.1 (List.mem_map.2 ⟨r, hr, rfl⟩)
      rw [ev, show a ^^^ gmul (ev c r.1) r.1 ^^^ a = gmul (ev c r.1) r.1 by rw [UInt8.xor_comm a, UInt8.xor_assoc, UInt8.xor_self, UInt8.xor_zero], gmul_assoc, gmul_ginv hx0, gmul_one]
    have hX : ∀ j, j < 32 → (atR S 0).getD j 0 = (P j).tail.getD 0 0 := fun j hj => by
      rw [atR_get S 0 j hj hS32, atP_poly _ _ ((P j).tail) (by rw [hSx]; exact hn) (by rw [xsOf_len, hSl, List.length_tail, hP j hj]; rfl) (fun i hi => ?_), ev_zero]
      rw [xsOf_len] at hi
      have hg := List.getElem?_eq_getElem hi
      rw [xsOf_get S i _ hg, ysOf_get S i j _ hg, hSv _ (List.getElem_mem hi) j hj]
    have hXl := atR_len S 0 hS32
    have htl : ∀ (c : List UInt8) (i : Nat), c.tail.getD i 0 = c.getD (i + 1) 0 := fun c i => by cases c <;> simp [List.getD]
    rw [explN, ← hS]
    cases t with
    | zero =>
      rw [Nat.mul_zero, Nat.zero_add, getD_app _ _ _ (by omega), hX j hj, htl]
    | succ t =>
      have e : (atR S 0 ++ explN n (atR S 0) S.tail).getD (32 * (t + 1) + j) 0 = (explN n (atR S 0) S.tail).getD (32 * t + j) 0 := by
        rw [List.getD, List.getD, List.getElem?_append_right (by omega), hXl, show 32 * (t + 1) + j - 32 = 32 * t + j by omega]
      rw [e]
      have hts : xsOf S.tail = (xsOf L).tail := by rw [xsOf_tail, hSx]
      rw [expl_poly n S.tail (atR S 0) (fun j => (P j).tail) (by rw [List.length_tail, hSl]; rfl) (by rw [hts]; exact hn.sublist (List.tail_sublist _)) (fun x hx => h0 x (by rw [hts] at hx; exact List.mem_of_mem_tail hx)) (fun p hp => hS32 p (List.mem_of_mem_tail hp)) hXl (fun j hj => by rw [List.length_tail, hP j hj]; rfl) hX (fun p hp => hSv p (List.mem_of_mem_tail hp)) t (by omega) j hj, htl]
/-- The polynomials through the points and the key's byte at 0. -/
def thrK (low : List UInt8) (L : List Pt) (j : Nat) : List UInt8 := thr (xsOf L ++ [0]) (ysOf L j ++ [low.getD j 0])
theorem thrK_len (low : List UInt8) (L : List Pt) (j : Nat) : (thrK low L j).length = L.length + 1 := by rw [thrK, thr_len, List.length_append, xsOf_len]; rfl
theorem xs0_nodup {xs : List UInt8} (hn : xs.Nodup) (h0 : ∀ x ∈ xs, x ≠ 0) : (xs ++ [0]).Nodup := by
  rw [List.nodup_append]
  exact ⟨hn, by simp, fun a ha b hb => by rw [List.mem_singleton.1 hb]; exact h0 a ha⟩
theorem thrK_zero (low : List UInt8) (L : List Pt) (j : Nat) (hn : (xsOf L).Nodup) (h0 : ∀ x ∈ xsOf L, x ≠ 0) : (thrK low L j).getD 0 0 = low.getD j 0 := by
  rw [← ev_zero, thrK, thr_ev]
  have := atP_at (xsOf L ++ [0]) (ysOf L j ++ [low.getD j 0]) (xs0_nodup hn h0) L.length (by simp [xsOf_len])
  have e1 : (xsOf L ++ [0]).getD L.length 0 = 0 := by rw [← xsOf_len L]; simp [List.getD]
  have e2 : (ysOf L j ++ [low.getD j 0]).getD L.length 0 = low.getD j 0 := by
    have : (ysOf L j).length = L.length := by simp [ysOf]
    rw [List.getD, List.getElem?_append_right (by omega), this, Nat.sub_self]; rfl
  rw [e1, e2] at this
  exact this
theorem thrK_at (low : List UInt8) (L : List Pt) (j : Nat) (hn : (xsOf L).Nodup) (h0 : ∀ x ∈ xsOf L, x ≠ 0) (p : Pt) (hp : p ∈ L) : ev (thrK low L j) p.1 = p.2.getD j 0 := by
  obtain ⟨i, hi, rfl⟩ := List.mem_iff_getElem.1 hp
  have hg := List.getElem?_eq_getElem hi
  rw [thrK, thr_ev]
  have := atP_at (xsOf L ++ [0]) (ysOf L j ++ [low.getD j 0]) (xs0_nodup hn h0) i (by simp [xsOf_len]; omega)
  rw [getD_app _ _ _ (by rw [xsOf_len]; exact hi), getD_app _ _ _ (by simp [ysOf]; exact hi), xsOf_get L i _ hg, ysOf_get L i j _ hg] at this
  exact this
theorem expl_thr (L : List Pt) (low : List UInt8) (hn : (xsOf L).Nodup) (h0 : ∀ x ∈ xsOf L, x ≠ 0) (h32 : ∀ p ∈ L, p.2.length = 32) (hlow : low.length = 32) (t : Nat) (ht : t < L.length) (j : Nat) (hj : j < 32) :
    (explN L.length low L).getD (32 * t + j) 0 = (thrK low L j).getD (t + 1) 0 :=
  expl_poly L.length L low (thrK low L) rfl hn h0 h32 hlow (fun j _ => thrK_len low L j) (fun j _ => (thrK_zero low L j hn h0).symm) (fun p hp j _ => (thrK_at low L j hn h0 p hp).symm) t ht j hj

/-! ## Shares of a split, one fewer than give it back -/
theorem rows_ext (a b : List UInt8) (n : Nat) (ha : a.length = 32 * n) (hb : b.length = 32 * n) (h : ∀ t, t < n → ∀ j, j < 32 → a.getD (32 * t + j) 0 = b.getD (32 * t + j) 0) : a = b :=
  list_getD_ext _ _ (by omega) fun i hi => by
    have := h (i / 32) (by omega) (i % 32) (Nat.mod_lt _ (by decide))
    rwa [Nat.div_add_mod] at this
/-- The polynomial of the split. -/
theorem expl_own {m c : List UInt8} {K : Nat} (hK : 1 ≤ K) (hm : m.length = 32) (hc : c.length = 32 * (K - 1)) (L : List Pt) (hn : (xsOf L).Nodup) (h0 : ∀ x ∈ xsOf L, x ≠ 0) (hl : L.length + 1 = K) (hv : ∀ p ∈ L, p.2 = valS m c K p.1) : explN L.length m L = c := by
  have hll : 32 * K ≤ m.length + c.length := by omega
  have h32 : ∀ p ∈ L, p.2.length = 32 := fun p hp => by rw [hv p hp, valS_len _ _ _ _ hll]
  refine rows_ext _ _ L.length (explN_len _ _ _ rfl hm h32) (by omega) fun t ht j hj => ?_
  rw [expl_poly L.length L m (coefs m c K) rfl hn h0 h32 hm (fun j _ => by rw [coefs_len]; omega) (fun j hj => ?_) (fun p hp j hj => by rw [hv p hp, valS_get m c K p.1 j hll hj]) t ht j hj, coefs_get m c K j (t + 1) (by omega) hj]
  · rw [List.getD, List.getD, List.getElem?_append_right (by omega), hm, show 32 * (t + 1) + j - 32 = 32 * t + j by omega]
  · rw [coefs_get m c K j 0 (by omega) hj, Nat.mul_zero, Nat.zero_add, getD_app _ _ _ (by omega)]
/-- Under the coins that explain them, any key has just these shares. -/
theorem expl_any {m2 : List UInt8} (L : List Pt) (hn : (xsOf L).Nodup) (h0 : ∀ x ∈ xsOf L, x ≠ 0) (h32 : ∀ p ∈ L, p.2.length = 32) (hm : m2.length = 32) (p : Pt) (hp : p ∈ L) : valS m2 (explN L.length m2 L) (L.length + 1) p.1 = p.2 := by
  have hel := explN_len L.length m2 L rfl hm h32
  have hll : 32 * (L.length + 1) ≤ m2.length + (explN L.length m2 L).length := by omega
  refine list_getD_ext _ _ (by rw [valS_len _ _ _ _ hll, h32 p hp]) fun j hj => ?_
  rw [valS_len _ _ _ _ hll] at hj
  rw [valS_get _ _ _ _ j hll hj, ← thrK_at m2 L j hn h0 p hp]
  congr 1
  refine list_getD_ext _ _ (by rw [coefs_len, thrK_len]) fun i hi => ?_
  rw [coefs_len] at hi
  rw [coefs_get _ _ _ j i hi hj]
  cases i with
  | zero => rw [Nat.mul_zero, Nat.zero_add, getD_app _ _ _ (by omega), thrK_zero m2 L j hn h0]
  | succ t =>
    rw [List.getD, List.getElem?_append_right (by omega), hm, show 32 * (t + 1) + j - 32 = 32 * t + j by omega]
    exact expl_thr L m2 hn h0 h32 hm t (by omega) j hj
/-- What the law asks of shares picked out of a split. -/
theorem secret_facts {m id c m2 : List UInt8} {N K : Nat} (hK : 1 ≤ K) (hKN : K ≤ N) (hN : N ≤ 16) (hm : m.length = 32) (hid : id.length = 8) (hc : c.length = 32 * (K - 1)) (hm2 : m2.length = 32) {out : List ByteArray} (hp : Pick (splitB m id c N K) out) (ho : out.length = K - 1) :
    ∃ cx : List UInt8, cx.length = 32 * (K - 1) ∧ explV m2 out = (cx, 0) ∧ explV m out = (c, 0) ∧ ∀ s ∈ out, s ∈ splitB m2 id cx N K := by
  have hl : 32 * K ≤ m.length + c.length := by omega
  have hsh : ∀ s ∈ out, Shar m id c K s := fun s hs => splitB_shar hN s (hp.mem s hs)
  have hnd := hp.nodup (splitB_nodup m id c N K hN hid hl)
  have htog := shar_tog hK (by omega) hid hl hsh hnd
  obtain ⟨L, hL⟩ : ∃ L, L = out.map ptO := ⟨_, rfl⟩
  have hLl : L.length = K - 1 := by rw [hL, List.length_map, ho]
  have hv : ∀ p ∈ L, p.2 = valS m c K p.1 := fun p hp => by
    rw [hL] at hp
    obtain ⟨s, hs, rfl⟩ := List.mem_map.1 hp
    exact shar_pt hid hl (hsh s hs)
  have h32 : ∀ p ∈ L, p.2.length = 32 := fun p hp => by rw [hv p hp, valS_len _ _ _ _ hl]
  have h0 : ∀ x ∈ xsOf L, x ≠ 0 := fun x hx => by
    obtain ⟨p, hp, rfl⟩ := List.mem_map.1 hx
    rw [hL] at hp
    obtain ⟨s, hs, rfl⟩ := List.mem_map.1 hp
    obtain ⟨y, h1, h2, rfl⟩ := hsh s hs
    rw [ofV_pt K id y _ hid (valS_len _ _ _ _ hl)]
    intro h
    have : y = 0 := h
    rw [this] at h1
    exact absurd h1 (by decide)
  rw [← hL] at hnd
  have hval : ∀ mm : List UInt8, mm.length = 32 → explV mm out = (explN L.length mm L, 0) := fun mm hmm => by
    by_cases he : out = []
    · rw [expl_none hmm htog he]
      have : L = [] := by rw [hL, he]; rfl
      rw [this]; rfl
    · have h0' : 0 < out.length := Nat.pos_of_ne_zero (fun h => he (List.length_eq_zero_iff.1 h))
      have hk := shar_kin (by omega) hid (hsh _ (List.getElem_mem h0'))
      rw [expl_ok hmm htog _ (List.getElem?_eq_getElem h0') (by rw [hk]; show out.length + 1 = K; omega), hL, List.length_map]
  have hK1 : L.length + 1 = K := by omega
  refine ⟨explN L.length m2 L, by rw [explN_len _ _ _ rfl hm2 h32, hLl], hval m2 hm2, by rw [hval m hm, expl_own hK hm hc L hnd h0 hK1 hv], fun s hs => ?_⟩
  have hsm := hp.mem s hs
  obtain ⟨i, hi, rfl⟩ := List.mem_map.1 hsm
  have hpt : ptO (ofV K id (UInt8.ofNat (i + 1)) (valS m c K (UInt8.ofNat (i + 1)))) = (UInt8.ofNat (i + 1), valS m c K (UInt8.ofNat (i + 1))) := ofV_pt K id _ _ hid (valS_len _ _ _ _ hl)
  have hmem : (UInt8.ofNat (i + 1), valS m c K (UInt8.ofNat (i + 1))) ∈ L := by rw [hL, ← hpt]; exact List.mem_map.2 ⟨_, hs, rfl⟩
  have := expl_any L hnd h0 h32 hm2 _ hmem
  rw [hK1] at this
  refine List.mem_map.2 ⟨i, hi, ?_⟩
  show ofV K id (UInt8.ofNat (i + 1)) (valS m2 (explN L.length m2 L) K (UInt8.ofNat (i + 1))) = ofV K id (UInt8.ofNat (i + 1)) (valS m c K (UInt8.ofNat (i + 1)))
  rw [this]
end Go.Proofs.YtffhfmaphjjffaaDoor
