/- The product and the inverse of the program and of the document. -/
import Derived.Test.YtffhfmaphjjffaaDoorShrF
import Derived.Test.YtffhfmaphjjffaaDoorStr
import Derived.Test.YtffhfmaphjjffaaDoorUntil
import Derived.Test.YtffhfmaphjjffaaDoorProg
namespace Go.Proofs.YtffhfmaphjjffaaDoor
open Go.RowKit Go.Lib Base Gf
set_option linter.unusedVariables false
set_option linter.unusedSimpArgs false

section
variable (t : TypeId) (x y : Nat)
theorem nb_and (hx : x < 256) (hy : y < 256) : binOp .and t (.int .u8 (x : Int)) (.int .u8 (y : Int)) = pure (.int .u8 ((x &&& y : Nat) : Int)) := by
  rw [← bits8_and x y hx hy]; simp [binOp, intBits_and]
theorem nb_xor (hx : x < 256) (hy : y < 256) : binOp .xor t (.int .u8 (x : Int)) (.int .u8 (y : Int)) = pure (.int .u8 ((x ^^^ y : Nat) : Int)) := by
  rw [← bits8_xor x y hx hy]; simp [binOp, intBits_xor]
theorem nb_shl1 : binOp .shl t (.int .u8 (x : Int)) (.int .u64 1) = pure (.int .u8 ((x * 2 % 256 : Nat) : Int)) := by
  rw [binOp_shl]
  have e : IntKind.u8.wrap ((x : Int) * 2 ^ 1) = ((x * 2 % 256 : Nat) : Int) := by
    simp [IntKind.wrap, IntKind.bits, IntKind.signed]
  rw [← e]
  simp [Op.shift, IntKind.bits]
theorem nb_shr1 : binOp .shr t (.int .u8 (x : Int)) (.int .u64 1) = pure (.int .u8 ((x / 2 : Nat) : Int)) := by
  rw [binOp_shr]
  have e : (x : Int) / 2 ^ 1 = ((x / 2 : Nat) : Int) := by simp
  rw [← e]
  have e2 : (x : Int).fdiv 2 = (x : Int) / 2 := Int.fdiv_eq_ediv_of_nonneg _ (by omega)
  simp [Op.shift, IntKind.bits, e2]
end

set_option maxRecDepth 100000 in
set_option maxHeartbeats 1000000 in
theorem mul_any (a b : UInt8) (w : World) :
    Calls Tryd.prog 45 #[.int .u8 (bt a), .int .u8 (bt b)] w fun e w' => e = .returned (.int .u8 (bt (gmul a b))) ∧ w = w' := by
  have ha := a.toNat_lt
  have hb := b.toNat_lt
  obtain ⟨G, hG⟩ : ∃ G : Nat, G = gm a.toNat b.toNat := ⟨_, rfl⟩
  have hg : bt (gmul a b) = (G : Int) := by unfold bt; rw [gmul_nat, hG]
  rw [hg]
  have e0 : bt a = ((a.toNat : Nat) : Int) := rfl
  have e1 : bt b = ((b.toNat : Nat) : Int) := rfl
  rw [e0, e1]
  rw [← gmR_eq] at hG
  generalize a.toNat = A at ha hG ⊢
  generalize b.toNat = B at hb hG ⊢
  have HG := Lib.hid hG
  clear hG hg e0 e1
  go_enter Tryd.func45, Tryd.ntmps45
  go_wp2_with fail
  go_loop [0, 1, 5, 6] (fun va vb vp _ => ∃ n x y p : Nat, x < 256 ∧ y < 2 ^ n ∧ y < 256 ∧ p < 256 ∧ va = .int .u8 (x : Int) ∧ vb = .int .u8 (y : Int) ∧ vp = .int .u8 (p : Int) ∧ G = p ^^^ gmR n x y) (fun _ v _ _ => (intOf v).toNat)
  case atStart => exact ⟨8, A, B, 0, ha, hb, hb, by omega, rfl, rfl, rfl, by rw [HG.out, Nat.zero_xor]⟩
  case round =>
    clear HG ha hb
    obtain ⟨n, x, y, p, hx, hyn, hy, hp, rfl, rfl, rfl, hG⟩ := hrel
    by_cases h0 : y = 0
    · subst h0
      rw [gmR_zero, Nat.xor_zero] at hG
      subst hG
      go_wp2_with fail
      go_ret
      exact ⟨rfl, rfl⟩
    · have hn : n ≠ 0 := by rintro rfl; simp at hyn; omega
      obtain ⟨n, rfl⟩ : ∃ m, n = m + 1 := ⟨n - 1, by omega⟩
      have l1 : (0 : Int) < y := by omega
      have hyn2 : y / 2 < 2 ^ n := by rw [Nat.pow_succ] at hyn; omega
      have hgR : gmR (n + 1) x y = g0 x y ^^^ gmR n (xt x) (y / 2) := rfl
      rw [hgR] at hG
      have r1 : ∀ t, binOp .and t (.int .u8 (y : Int)) (.int .u8 1) = pure (.int .u8 ((y % 2 : Nat) : Int)) := fun t => by
        have := nb_and t y 1 hy (by omega)
        rw [Nat.and_one_is_mod] at this
        exact this
      have r2 : ∀ t, binOp .and t (.int .u8 (x : Int)) (.int .u8 128) = pure (.int .u8 ((if 128 ≤ x then 128 else 0 : Nat) : Int)) := fun t => by
        have := nb_and t x 128 hx (by omega)
        rw [and128 hx] at this
        exact this
      have r3 := fun t => nb_shl1 t x
      have r4 := fun t => nb_shr1 t y
      have r5 := fun t => nb_xor t p x hp hx
      have r6 : ∀ t, binOp .xor t (.int .u8 ((x * 2 % 256 : Nat) : Int)) (.int .u8 27) = pure (.int .u8 ((x * 2 % 256 ^^^ 27 : Nat) : Int)) := fun t => nb_xor t (x * 2 % 256) 27 (by omega) (by omega)
      have hxt := xt_lt hx
      obtain ⟨z, hz⟩ : ∃ z, z = y / 2 := ⟨_, rfl⟩
      have hz2 : z < y := by omega
      have hz3 : z < 256 := by omega
      rw [← hz] at hG r4 hyn2
      have x27 : 128 ≤ x → x * 2 % 256 ^^^ 27 = xt x := fun h => (xt_27 h hx).symm
      have xs : ¬ 128 ≤ x → x * 2 % 256 = xt x := fun h => by rw [xt_small (by omega)]; omega
      obtain ⟨v, hv⟩ : ∃ v, v = xt x := ⟨_, rfl⟩
      rw [← hv] at hG hxt x27 xs
      obtain ⟨c, hc⟩ : ∃ c, c = x * 2 % 256 := ⟨_, rfl⟩
      rw [← hc] at r3 r6 x27 xs
      obtain ⟨d, hd⟩ : ∃ d, d = p ^^^ x := ⟨_, rfl⟩
      have hd2 : d < 256 := by rw [hd]; exact xor_lt hp hx
      rw [← hd] at r5
      obtain ⟨k, hk⟩ : ∃ k, k = c ^^^ 27 := ⟨_, rfl⟩
      rw [← hk] at r6 x27
      have h2 : y % 2 = 0 ∨ y % 2 = 1 := by omega
      have HG := Lib.hid hG
      have HD := Lib.hid hd
      have H2 : Hid (y % 2 = 0 → g0 x y = 0) := Lib.hid (fun h => g0_even h)
      have H3 : Hid (y % 2 = 1 → g0 x y = x) := Lib.hid (fun h => g0_odd h)
      by_cases h1 : 128 ≤ x
      · have hkv := x27 h1
        rw [if_pos h1] at r2
        rw [hkv] at r6
        clear x27 xs hk hd hv hz hc hG hkv hgR hyn
        rcases h2 with h2 | h2
        · have HE := H2.out h2
          rw [h2] at r1
          have HGG := Lib.hid (And.intro HG.out HE)
          clear H2 H3 HG HE h2
          go_wp2_with fail
          refine ⟨⟨n, v, z, p, hxt, hyn2, hz3, hp, rfl, rfl, rfl, by rw [HGG.out.1, HGG.out.2, Nat.zero_xor]⟩, by simp only [intOf]; omega⟩
        · have HE := H3.out h2
          rw [h2] at r1
          have HGG := Lib.hid (And.intro HG.out HE)
          clear H2 H3 HG HE h2
          go_wp2_with fail
          refine ⟨⟨n, v, z, d, hxt, hyn2, hz3, hd2, rfl, rfl, rfl, by rw [HGG.out.1, HGG.out.2, HD.out, Nat.xor_assoc]⟩, by simp only [intOf]; omega⟩
      · have hkv := xs h1
        rw [if_neg h1] at r2
        rw [hkv] at r3
        clear x27 xs hk hd hv hz hc hG hkv hgR hyn r6
        rcases h2 with h2 | h2
        · have HE := H2.out h2
          rw [h2] at r1
          have HGG := Lib.hid (And.intro HG.out HE)
          clear H2 H3 HG HE h2
          go_wp2_with fail
          refine ⟨⟨n, v, z, p, hxt, hyn2, hz3, hp, rfl, rfl, rfl, by rw [HGG.out.1, HGG.out.2, Nat.zero_xor]⟩, by simp only [intOf]; omega⟩
        · have HE := H3.out h2
          rw [h2] at r1
          have HGG := Lib.hid (And.intro HG.out HE)
          clear H2 H3 HG HE h2
          go_wp2_with fail
          refine ⟨⟨n, v, z, d, hxt, hyn2, hz3, hd2, rfl, rfl, rfl, by rw [HGG.out.1, HGG.out.2, HD.out, Nat.xor_assoc]⟩, by simp only [intOf]; omega⟩

theorem ip_get (a : UInt8) (n : Nat) : gmul (UInt8.ofNat (ip a.toNat n)) a = UInt8.ofNat (ip a.toNat (n + 1)) := by
  apply UInt8.toNat_inj.1
  rw [gmul_nat, UInt8.toNat_ofNat_of_lt' (ip_lt _), UInt8.toNat_ofNat_of_lt' (ip_lt _)]; rfl
set_option maxRecDepth 100000 in
theorem inv_any (a : UInt8) (w : World) :
    Calls Tryd.prog 41 #[.int .u8 (bt a)] w fun e w' => e = .returned (.int .u8 (bt (ginv a))) ∧ w = w' := by
  have HP : ∀ n, Hid (gmul (UInt8.ofNat (ip a.toNat n)) a = UInt8.ofNat (ip a.toNat (n + 1))) := fun n => Lib.hid (ip_get a n)
  have HG : Hid (ginv a = UInt8.ofNat (ip a.toNat 254)) := Lib.hid rfl
  obtain ⟨F, hF⟩ : ∃ F : Nat → UInt8, ∀ n, F n = UInt8.ofNat (ip a.toNat n) := ⟨_, fun _ => rfl⟩
  have hF0 : F 0 = 1 := by rw [hF]; rfl
  have hFs : ∀ n, gmul (F n) a = F (n + 1) := fun n => by rw [hF, hF]; exact (HP n).out
  have hFe : ginv a = F 254 := by rw [hF]; rfl
  rw [hFe]
  have HF := Lib.hid (And.intro hF0 hFs)
  clear hF HP HG hF0 hFs hFe
  go_enter Tryd.func41, Tryd.ntmps41
  go_wp2_with fail
  go_loopw [3, 4] (fun vp vi wr => ∃ n : Nat, n ≤ 254 ∧ vi = .int .i64 n ∧ vp = .int .u8 (bt (F n)) ∧ wr = w) (fun _ v _ => 254 - (intOf v).toNat)
  case atStart => exact ⟨0, by omega, rfl, by rw [HF.out.1]; rfl, rfl⟩
  case round =>
    obtain ⟨n, hn, rfl, rfl, rfl⟩ := hrel
    by_cases hl : n < 254
    · have l1 : (n : Int) < 254 := by omega
      have cm := mul_any (F n) a wr
      rw [HF.out.2 n] at cm
      go_wp2_with (first
        | (go_at_call 45; refine cm.mono ?_; clear cm; rintro e w1 ⟨rfl, rfl⟩)
        | fail)
      refine ⟨⟨n + 1, by omega, by simp, rfl, by trivial⟩, by simp only [intOf]; omega⟩
    · obtain rfl : n = 254 := by omega
      go_wp2_with fail
      go_ret
      exact ⟨rfl, rfl⟩
end Go.Proofs.YtffhfmaphjjffaaDoor
