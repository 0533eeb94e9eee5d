/- The document's products and values of polynomials. -/
import Derived.Test.YtffhfmaphjjffaaDoorShrSplit
import Derived.Test.YtffhfmaphjjffaaDoorShrLawA
import Derived.Test.YtffhfmaphjjffaaDoorUntil
namespace Go.Proofs.YtffhfmaphjjffaaDoor
open Go.RowKit Go.Lib Go.Joins Base Gf
set_option linter.unusedVariables false
set_option linter.unusedSimpArgs false

section
variable (t : TypeId) (x y : Nat)
theorem ib_rem2 : binOp .rem t (.int .i64 (x : Int)) (.int .i64 2) = pure (.int .i64 ((x % 2 : Nat) : Int)) := by
  simp only [binOp, Op.intDiv]
  rw [if_neg (by simp)]
  rw [if_neg (by omega)]
  rw [Int.tmod_eq_emod_of_nonneg (by omega)]
  congr 2
theorem ib_xor (hx : x < 9223372036854775808) (hy : y < 9223372036854775808) : binOp .xor t (.int .i64 (x : Int)) (.int .i64 (y : Int)) = pure (.int .i64 ((x ^^^ y : Nat) : Int)) := by
  rw [← bitsI_xor x y hx hy]; simp [binOp, intBits_xor]
theorem ib_xorB (a b : UInt8) : binOp .xor t (.int .i64 (bt a)) (.int .i64 (bt b)) = pure (.int .i64 (bt (a ^^^ b))) := by
  have ha := a.toNat_lt
  have hb := b.toNat_lt
  have := ib_xor t a.toNat b.toNat (by omega) (by omega)
  unfold bt
  rw [UInt8.toNat_xor]; exact this
end

set_option maxRecDepth 100000 in
set_option maxHeartbeats 1000000 in
theorem rtimes_any (a b : UInt8) (w : World) :
    Calls Tryd.prog 46 #[.int .i64 (bt a), .int .i64 (bt b)] w fun e w' => e = .returned (.int .i64 (bt (gmul a b))) ∧ w = w' := by
  have ha := a.toNat_lt
  have hb := b.toNat_lt
  obtain ⟨G, hG⟩ : ∃ G : Nat, G = gm a.toNat b.toNat := ⟨_, rfl⟩
  have hg : bt (gmul a b) = (G : Int) := by unfold bt; rw [gmul_nat, hG]
  rw [hg]
  have e0 : bt a = ((a.toNat : Nat) : Int) := rfl
  have e1 : bt b = ((b.toNat : Nat) : Int) := rfl
  rw [e0, e1]
  rw [← gmR_eq] at hG
  generalize a.toNat = A at ha hG ⊢
  generalize b.toNat = B at hb hG ⊢
  have HG := Lib.hid hG
  clear hG hg e0 e1
  go_enter Tryd.func46, Tryd.ntmps46
  go_wp2_with fail
  go_loop [0, 1, 5, 6] (fun va vb vp vi => ∃ n x y p i : Nat, x < 256 ∧ y < 2 ^ n ∧ y < 256 ∧ p < 256 ∧ i + n = 8 ∧ va = .int .i64 (x : Int) ∧ vb = .int .i64 (y : Int) ∧ vp = .int .i64 (p : Int) ∧ vi = .int .i64 (i : Int) ∧ G = p ^^^ gmR n x y) (fun _ _ _ v => 8 - (intOf v).toNat)
  case atStart => exact ⟨8, A, B, 0, 0, ha, hb, hb, by omega, rfl, rfl, rfl, rfl, rfl, by rw [HG.out, Nat.zero_xor]⟩
  case round =>
    clear HG ha hb
    obtain ⟨n, x, y, p, i, hx, hyn, hy, hp, hin, rfl, rfl, rfl, rfl, hG⟩ := hrel
    by_cases h0 : n = 0
    · subst h0
      have hi8 : i = 8 := by omega
      subst hi8
      have e : gmR 0 x y = 0 := rfl
      rw [e, Nat.xor_zero] at hG
      subst hG
      go_wp2_with fail
      go_ret
      exact ⟨rfl, rfl⟩
    · obtain ⟨n, rfl⟩ : ∃ m, n = m + 1 := ⟨n - 1, by omega⟩
      have l1 : (i : Int) < 8 := by omega
      have hyn2 : y / 2 < 2 ^ n := by rw [Nat.pow_succ] at hyn; omega
      have hgR : gmR (n + 1) x y = g0 x y ^^^ gmR n (xt x) (y / 2) := rfl
      rw [hgR] at hG
      have r1 := fun t => ib_rem2 t y
      have r5 := fun t => ib_xor t p x (by omega) (by omega)
      have r6 : ∀ t, binOp .xor t (.int .i64 ((2 * x : Nat) : Int)) (.int .i64 283) = pure (.int .i64 ((2 * x ^^^ 283 : Nat) : Int)) := fun t => ib_xor t (2 * x) 283 (by omega) (by omega)
      have hxt := xt_lt hx
      obtain ⟨z, hz⟩ : ∃ z, z = y / 2 := ⟨_, rfl⟩
      have d4 : (y : Int) / 2 = (z : Int) := by omega
      have r4 : ∀ t, binOp .quo t (.int .i64 (y : Int)) (.int .i64 2) = pure (.int .i64 (z : Int)) := fun t => by
        simp only [binOp, Op.intDiv]
        rw [if_neg (by simp)]
        rw [if_neg (by omega)]
        have e : (y : Int).tdiv 2 = (z : Int) := by rw [Int.tdiv_eq_ediv_of_nonneg (by omega)]; omega
        simp only [e]
        have w2 : IntKind.i64.wrap (z : Int) = z := IntWalk.i64_in _ (by omega)
        first | rfl | (simp [w2]) | (rw [w2]; rfl)
      have hz3 : z < 256 := by omega
      rw [← hz] at hG hyn2
      obtain ⟨c, hc⟩ : ∃ c, c = 2 * x := ⟨_, rfl⟩
      have r3 : ∀ t, binOp .mul t (.int .i64 2) (.int .i64 (x : Int)) = pure (.int .i64 (c : Int)) := fun t => by
        rw [binOp_mul]
        have w2 : IntKind.i64.wrap (2 * (x : Int)) = (c : Int) := by rw [IntWalk.i64_in _ (by omega)]; omega
        show pure (Value.int .i64 (IntKind.i64.wrap (2 * (x : Int)))) = _
        rw [w2]
      rw [← hc] at r6
      obtain ⟨v, hv⟩ : ∃ v, v = xt x := ⟨_, rfl⟩
      have xg : 128 ≤ x → c ^^^ 283 = v := fun h => by rw [hv, hc, xt_great h hx]
      have xs : ¬ 128 ≤ x → c = v := fun h => by rw [hv, hc, xt_small (by omega)]
      rw [← hv] at hG hxt
      obtain ⟨d, hd⟩ : ∃ d, d = p ^^^ x := ⟨_, rfl⟩
      have hd2 : d < 256 := by rw [hd]; exact xor_lt hp hx
      rw [← hd] at r5
      have h2 : y % 2 = 0 ∨ y % 2 = 1 := by omega
      have HG := Lib.hid hG
      have HD := Lib.hid hd
      have H2 : Hid (y % 2 = 0 → g0 x y = 0) := Lib.hid (fun h => g0_even h)
      have H3 : Hid (y % 2 = 1 → g0 x y = x) := Lib.hid (fun h => g0_odd h)
      by_cases h1 : 128 ≤ x
      · have hkv := xg h1
        rw [hkv] at r6
        have l2 : (256 : Int) ≤ c := by omega
        clear xg xs hd hv hz hc hG hkv hgR hyn d4
        rcases h2 with h2 | h2
        · have HE := H2.out h2
          rw [h2] at r1
          have HGG := Lib.hid (And.intro HG.out HE)
          clear H2 H3 HG HE h2
          go_wp2_with fail
          refine ⟨⟨n, v, z, p, i + 1, hxt, hyn2, hz3, hp, by omega, rfl, rfl, rfl, by simp, by rw [HGG.out.1, HGG.out.2, Nat.zero_xor]⟩, by simp only [intOf]; omega⟩
        · have HE := H3.out h2
          rw [h2] at r1
          have HGG := Lib.hid (And.intro HG.out HE)
          clear H2 H3 HG HE h2
          go_wp2_with fail
          refine ⟨⟨n, v, z, d, i + 1, hxt, hyn2, hz3, hd2, by omega, rfl, rfl, rfl, by simp, by rw [HGG.out.1, HGG.out.2, HD.out, Nat.xor_assoc]⟩, by simp only [intOf]; omega⟩
      · have hkv := xs h1
        subst hkv
        have l2 : ¬ (256 : Int) ≤ c := by omega
        clear xg xs hd hv hz hc hG hgR hyn r6 d4
        rcases h2 with h2 | h2
        · have HE := H2.out h2
          rw [h2] at r1
          have HGG := Lib.hid (And.intro HG.out HE)
          clear H2 H3 HG HE h2
          go_wp2_with fail
          refine ⟨⟨n, c, z, p, i + 1, hxt, hyn2, hz3, hp, by omega, rfl, rfl, rfl, by simp, by rw [HGG.out.1, HGG.out.2, Nat.zero_xor]⟩, by simp only [intOf]; omega⟩
        · have HE := H3.out h2
          rw [h2] at r1
          have HGG := Lib.hid (And.intro HG.out HE)
          clear H2 H3 HG HE h2
          go_wp2_with fail
          refine ⟨⟨n, c, z, d, i + 1, hxt, hyn2, hz3, hd2, by omega, rfl, rfl, rfl, by simp, by rw [HGG.out.1, HGG.out.2, HD.out, Nat.xor_assoc]⟩, by simp only [intOf]; omega⟩

def jcells (c : List UInt8) : List Value := c.map fun x => .int .i64 (bt x)
theorem jcells_len (c : List UInt8) : (jcells c).length = c.length := by simp [jcells]
theorem jcells_one (c : List UInt8) : ∀ v ∈ jcells c, v.oneCell' = true := by
  intro v hv; obtain ⟨x, _, rfl⟩ := List.mem_map.1 hv; rfl
set_option maxRecDepth 100000 in
set_option maxHeartbeats 1000000 in
theorem rvalue_any (c : List UInt8) (x : UInt8) (g cap : Nat) (hl : c.length ≤ 1048576) (w : World) (hc : ∀ j u, (jcells c)[j]? = some u → w.cell? ⟨g, j, none⟩ = some u) :
    Calls Tryd.prog 33 #[.slice (some ⟨g, 0, none⟩) c.length cap, .int .i64 (bt x)] w fun e w' => e = .returned (.int .i64 (bt (ev c x))) ∧ w = w' := by
  obtain ⟨G, hG⟩ : ∃ G, G = ev c x := ⟨_, rfl⟩
  rw [← hG]
  have HG := Lib.hid hG
  clear hG
  go_enter Tryd.func33, Tryd.ntmps33
  go_wp2_with fail
  go_loopw [5, 6, 7] (fun v5 v6 v7 wr => ∃ (i : Nat) (v p : UInt8), i ≤ c.length ∧ v7 = .int .i64 i ∧ v5 = .int .i64 (bt v) ∧ v6 = .int .i64 (bt p) ∧ G = v ^^^ gmul (ev (c.drop i) x) p ∧ wr = w) (fun _ _ v _ => c.length - (intOf v).toNat)
  case atStart => exact ⟨0, 0, 1, by omega, rfl, rfl, rfl, by rw [HG.out, List.drop_zero, gmul_one, UInt8.zero_xor], rfl⟩
  case round =>
    obtain ⟨i, v, p, hi, rfl, rfl, rfl, hG, rfl⟩ := hrel
    by_cases hlt : i < c.length
    · have l1 : (i : Int) < c.length := by omega
      obtain ⟨y, hy⟩ : ∃ y, y = c[i] := ⟨_, rfl⟩
      have c0 := hc i (.int .i64 (bt y)) (by simp [jcells, hlt, hy])
      have hd : c.drop i = y :: c.drop (i + 1) := by rw [List.drop_eq_getElem_cons hlt, hy]
      rw [hd, ev] at hG
      have c1 := rtimes_any y p wr
      have c2 := rtimes_any p x wr
      obtain ⟨q, hq⟩ : ∃ q, q = gmul y p := ⟨_, rfl⟩
      obtain ⟨r, hr⟩ : ∃ r, r = gmul p x := ⟨_, rfl⟩
      rw [← hq] at c1
      rw [← hr] at c2
      have hG2 : G = (v ^^^ q) ^^^ gmul (ev (c.drop (i + 1)) x) r := by
        rw [hG, hq, hr, xor_gmul, gmul_assoc, gmul_comm x p]; ac_rfl
      have r3 := fun t => ib_xorB t v q
      have HG2 := Lib.hid hG2
      have mk1 : True := trivial
      clear hG hG2 hd hq hr hy HG
      go_wp2_with (first
        | (go_at_call 46; clear mk1; refine c1.mono ?_; clear c1; rintro e w1 ⟨rfl, rfl⟩)
        | (go_at_call 46; refine c2.mono ?_; clear c2; rintro e w1 ⟨rfl, rfl⟩)
        | fail)
      refine ⟨⟨i + 1, v ^^^ q, r, by omega, by simp, rfl, rfl, HG2.out, by trivial⟩, by simp only [intOf]; omega⟩
    · obtain rfl : i = c.length := by omega
      have e : c.drop c.length = [] := List.drop_length
      rw [e] at hG
      have hG : G = v := by rw [hG]; show v ^^^ gmul 0 p = v; rw [zero_gmul, UInt8.xor_zero]
      subst hG
      go_wp2_with fail
      go_ret
      exact ⟨rfl, rfl⟩
end Go.Proofs.YtffhfmaphjjffaaDoor
