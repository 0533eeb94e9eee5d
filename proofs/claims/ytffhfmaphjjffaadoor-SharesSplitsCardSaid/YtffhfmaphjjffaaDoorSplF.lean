/- Split of the document. -/
import Derived.Test.YtffhfmaphjjffaaDoorSplE
import Derived.Test.YtffhfmaphjjffaaDoorUntil
namespace Go.Proofs.YtffhfmaphjjffaaDoor
open Go.RowKit Go.Lib Go.Joins Base Gf
set_option linter.unusedVariables false
set_option linter.unusedSimpArgs false

/-- Rows of unlike elements lie in unlike blocks. -/
theorem own_apart_ty {w : World} {b b' s s' n n' : Nat} {e e' : TypeId} {v v' : Value} {xs xs' : List Value} (h : w.ownsRow b e s v n xs) (h' : w.ownsRow b' e' s' v' n' xs') (hne : e ≠ e') : ∀ g, v.ownBlock = some g → v'.ownBlock ≠ some g := by
  intro g hg hg'
  obtain ⟨_, ⟨rfl, _⟩ | ⟨g1, c1, cur1, rfl, _, h1, _⟩⟩ := h
  · cases hg
  obtain ⟨_, ⟨rfl, _⟩ | ⟨g2, c2, cur2, rfl, _, h2, _⟩⟩ := h'
  · cases hg'
  simp only [Value.ownBlock, Option.some.injEq] at hg hg'
  subst hg hg'
  rw [h1] at h2
  simp only [Option.some.injEq, Obj.cells.injEq] at h2
  exact hne h2.2.1
theorem own_else {w w' : World} {row : Option Nat} {b b' s s' n n' : Nat} {e e' : TypeId} {v v' : Value} {xs xs' : List Value} (h : w.ownsRow b e s v n xs) (h' : w.ownsRow b' e' s' v' n' xs') (hne : e ≠ e') (gr : w.grownBy w' row) (hr : row = v.ownBlock) : w'.ownsRow b' e' s' v' n' xs' :=
  own_fr h' (Fr.ofGrown gr (S := v.ownBlock.toList) (by intro k hk; rw [hr] at hk; rw [hk]; simp)) (fun g hg hx => own_apart_ty h h' hne g (by simpa using hx) hg)
/-- The coefficients at one byte. -/
def coefs (m c : List UInt8) (K j : Nat) : List UInt8 := (rowsL (m ++ c) K).map fun r => r.getD j 0
theorem coefs_len (m c : List UInt8) (K j : Nat) : (coefs m c K j).length = K := by simp [coefs, rowsL]
theorem coefs_get (m c : List UInt8) (K j i : Nat) (hi : i < K) (hj : j < 32) : (coefs m c K j).getD i 0 = (m ++ c).getD (32 * i + j) 0 := by
  simp only [coefs, rowsL, List.getD, List.getElem?_map, List.getElem?_range hi, Option.map_some, Option.getD_some, List.getElem?_take, if_pos hj, List.getElem?_drop]
theorem valS_get (m c : List UInt8) (K : Nat) (x : UInt8) (j : Nat) (h : 32 * K ≤ m.length + c.length) (hj : j < 32) : (valS m c K x).getD j 0 = ev (coefs m c K j) x :=
  horR_get _ _ _ (rowsL_row _ _ (by simpa using h)) hj
theorem take_snoc0 (l : List UInt8) (j : Nat) (h : j < l.length) : l.take (j + 1) = l.take j ++ [l.getD j 0] := by
  rw [List.take_add_one, List.getElem?_eq_getElem h]; simp [List.getD, h]

set_option maxRecDepth 100000 in
set_option maxHeartbeats 8000000 in
theorem rsplit_any (master coins id : ByteArray) (N K : Nat) (hm : master.size = 32) (hid : id.size = 8) (h1 : 1 ≤ K) (h2 : K ≤ N) (h3 : N ≤ 16) (hc : coins.size = 32 * (K - 1)) (w : World) (hP : Powers w) (hQ : RefRoots w) :
    Calls Tryd.prog 12 #[.string master, .int .i64 N, .int .i64 K, .string id, .string coins] w fun e w' => ∃ v, e = .returned (.tuple #[v, .int .i64 0]) ∧ w'.ownsRow w.heap.size 9 1 v N (tcells (splitB master.data.toList id.data.toList coins.data.toList N K)) ∧ Fr [] w w' := by
  have hi5 : (Tryd.prog.info? 9).map (fun i => (i.zero, i.size, i.bytes)) = some (some (.string ⟨#[]⟩), 1, 16) := by kernel_rfl
  obtain ⟨iT, hiT, zT0, zT1, zT2⟩ := info_parts hi5
  have hi6 : (Tryd.prog.info? 5).map (fun i => (i.zero, i.size, i.bytes)) = some (some (.int .u8 0), 1, 1) := by kernel_rfl
  obtain ⟨iB, hiB, zB0, zB1, zB2⟩ := info_parts hi6
  have hi7 : (Tryd.prog.info? 3).map (fun i => (i.zero, i.size, i.bytes)) = some (some (.int .i64 0), 1, 8) := by kernel_rfl
  obtain ⟨iI, hiI, zI0, zI1, zI2⟩ := info_parts hi7
  have b1 : ¬ (K : Int) < 1 := by omega
  have b2 : ¬ (N : Int) < K := by omega
  have b3 : ¬ (16 : Int) < N := by omega
  have b5 : ¬ (N : Int) < 1 := by omega
  have b4 : ((coins.size : Int) != ((K : Int) - 1) * 32) = false := by
    have : (coins.size : Int) = ((K : Int) - 1) * 32 := by omega
    simp [this]
  obtain ⟨m, hmd⟩ : ∃ m, m = master.data.toList := ⟨_, rfl⟩
  obtain ⟨c, hcd⟩ : ∃ c, c = coins.data.toList := ⟨_, rfl⟩
  have hml : m.length = 32 := by rw [hmd]; simpa using hm
  have hcl : c.length = 32 * (K - 1) := by rw [hcd]; simpa using hc
  rw [← hmd, ← hcd]
  obtain ⟨P, hPd⟩ : ∃ P : Nat → List ByteArray, P = fun i => splitB m id.data.toList c i K := ⟨_, rfl⟩
  have hP0 : P 0 = [] := by rw [hPd]; rfl
  have hPl : ∀ i, (P i).length = i := fun i => by rw [hPd]; exact splitB_len _ _ _ _ _
  have hPs : ∀ i, P (i + 1) = P i ++ [⟨(textS (UInt8.ofNat (i + 1)) (UInt8.ofNat K) id.data.toList (valS m c K (UInt8.ofNat (i + 1)))).toArray⟩] := fun i => by rw [hPd]; exact splitB_succ _ _ _ _ _
  have hPN : splitB m id.data.toList c N K = P N := by rw [hPd]
  rw [hPN]
  have gm : ∀ j, j < 32 → ∃ hj : j < master.size, master[j] = (m ++ c).getD j 0 := fun j hj => ⟨by omega, by
    refine bget _ ?_
    have hp0 : j < master.data.size := by show j < master.size; omega
    rw [← hmd, List.getD, List.getElem?_append_left (by omega), List.getElem?_eq_getElem (by omega)]; rfl⟩
  have gc : ∀ r, r < 32 * (K - 1) → ∃ hr : r < coins.size, coins[r] = (m ++ c).getD (32 + r) 0 := fun r hr => ⟨by omega, by
    refine bget _ ?_
    rw [← hcd, List.getD, List.getElem?_append_right (by omega), hml, show 32 + r - 32 = r by omega, List.getElem?_eq_getElem (by omega)]; rfl⟩
  have cH := fun (x : UInt8) (vs : ByteArray) (hvs : vs.size = 32) w h1 h2 => rshare_any x (UInt8.ofNat K) (bt x) K id vs hid hvs (u8_btb x) (ofNat_wrap K (by omega)) w h1 h2
  have HB := Lib.hid (And.intro h1 (And.intro h2 (And.intro h3 (And.intro hml hcl))))
  have HP := Lib.hid (And.intro hP0 (And.intro hPl hPs))
  have HG := Lib.hid (And.intro gm gc)
  have HC := Lib.hid hc
  clear hc hmd hcd hml hcl hPd hP0 hPl hPs hPN gm gc h1 h2 h3
  go_enter Tryd.func12, Tryd.ntmps12
  go_wp2_with fail
  clear b4
  go_loopw [12, 13, 14, 15, 16, 17] (fun v12 v13 _ _ _ _ wr => ∃ i : Nat, i ≤ N ∧ v13 = .int .i64 (bt (UInt8.ofNat (i + 1))) ∧ wr.ownsRow w.heap.size 9 1 v12 i (tcells (P i)) ∧ Below w.heap.size w wr) (fun _ v _ _ _ _ _ => 18 - (intOf v).toNat)
  case atStart => exact ⟨0, by omega, rfl, by rw [HP.out.1]; exact World.ownsRow_nil _ _ _ _, Below.refl _ _⟩
  case round =>
    obtain ⟨i, hi, rfl, hT, hB⟩ := hrel
    obtain ⟨hK1, hKN, hN16, hml, hcl⟩ := HB.out
    obtain ⟨x, hx⟩ : ∃ x, x = UInt8.ofNat (i + 1) := ⟨_, rfl⟩
    have hxb : bt x = (i : Int) + 1 := by rw [hx, bt_ofNat _ (by omega)]; omega
    rw [← hx]
    by_cases hl : i < N
    · have l1 : bt x ≤ (N : Int) := by omega
      obtain ⟨y, hy⟩ : ∃ y, y = UInt8.ofNat (i + 1 + 1) := ⟨_, rfl⟩
      have hyb : bt y = (i : Int) + 2 := by rw [hy, bt_ofNat _ (by omega)]; omega
      have r5 : ∀ t, binOp .add t (.int .i64 (bt x)) (.int .i64 1) = pure (.int .i64 (bt y)) := fun t => by
        rw [binOp_add]
        show pure (Value.int .i64 (IntKind.i64.wrap (bt x + 1))) = _
        rw [IntWalk.i64_in _ (by omega), show bt x + 1 = bt y by omega]
      have HY := Lib.hid (And.intro hy hyb)
      have HX := Lib.hid (And.intro hx hxb)
      obtain ⟨V, hV⟩ : ∃ V, V = valS m c K x := ⟨_, rfl⟩
      have hVl : V.length = 32 := by rw [hV]; exact valS_len _ _ _ _ (by omega)
      have hVg : ∀ j, j < 32 → V.getD j 0 = ev (coefs m c K j) x := fun j hj => by rw [hV]; exact valS_get _ _ _ _ _ (by omega) hj
      have HV := Lib.hid (And.intro hV (And.intro hVl hVg))
      clear hx hxb hy hyb hV hVl hVg hK1 hKN hN16 hml hcl
      go_wp2_with fail
      go_loopw [14, 15, 16, 17] (fun v14 v15 _ _ wr => ∃ j : Nat, j ≤ 32 ∧ v15 = .int .i64 j ∧ wr.ownsRow w.heap.size 5 1 v14 j (byteCells (V.take j)) ∧ wr.ownsRow w.heap.size 9 1 u12 i (tcells (P i)) ∧ Below w.heap.size w wr) (fun _ v _ _ _ => 32 - (intOf v).toNat)
      case atStart => exact ⟨0, by omega, rfl, World.ownsRow_nil _ _ _ _, hT, hB⟩
      case round =>
        clear hT hB
        obtain ⟨j, hj, rfl, hV, hT, hB⟩ := hrel
        have hsz := hB.size
        by_cases hj2 : j < 32
        · have l2 : (j : Int) < 32 := by omega
          obtain ⟨hjm, gmj⟩ := HG.out.1 j hj2
          obtain ⟨y0, hy0⟩ : ∃ y0, y0 = (m ++ c).getD j 0 := ⟨_, rfl⟩
          rw [← hy0] at gmj
          obtain ⟨Cj, hCj⟩ : ∃ Cj, Cj = coefs m c K j := ⟨_, rfl⟩
          have hCl : Cj.length = K := by rw [hCj, coefs_len]
          have hCg : ∀ q, q < K → Cj.getD q 0 = (m ++ c).getD (32 * q + j) 0 := fun q hq => by rw [hCj]; exact coefs_get _ _ _ _ _ hq hj2
          have ht1 : Cj.take 1 = [y0] := by
            have := take_snoc0 Cj 0 (by have := HB.out.1; omega)
            simp only [List.take_zero, List.nil_append, Nat.zero_add] at this
            rw [hCg 0 (by have := HB.out.1; omega), show 32 * 0 + j = j by omega, ← hy0] at this
            exact this
          have hVn : V.take (j + 1) = V.take j ++ [ev Cj x] := by rw [take_snoc0 V j (by rw [HV.out.2.1]; exact hj2), HV.out.2.2 j hj2, hCj]
          have HCj := Lib.hid (And.intro hCl (And.intro hCg (And.intro ht1 hVn)))
          have A2 := At.alloc_new wr 3 #[Value.int .i64 (y0.toNat : Int)]
          have l3 : (j : Int) < master.size := by omega
          clear hy0 hCj hCl hCg ht1 hVn
          go_wp2_with (first
            | (at_builtin; refine wpList_append_own _ rfl _ _ _ rfl w.heap.size 3 iI (.int .i64 0) 1 8 Tryd.underlying51 hiI zI0 zI1 zI2 rfl (by decide) _ 0 _ rfl (World.ownsRow_nil _ _ _ _) ⟨wr.heap.size, 0, none⟩ 1 1 [.int .i64 (y0.toNat : Int)] rfl rfl (by intro j u hj; rw [addr_add', Nat.zero_add]; exact (A2.cell j).trans hj) (by intro u hu; simp at hu; subst hu; rfl) (by simp [maxLen]) (by omega) (by simp; omega) ?_; intro v2 w2 o2 gr2 _)
            | fail)
          have hB2 := (hB.alloc (by omega) (.cells #[Value.int .i64 (y0.toNat : Int)] 3)).grown gr2 (by simp; omega) (by intro k hk; cases hk)
          have f2 : Fr [] wr w2 := (Fr.alloc _ _ _).trans (Fr.ofGrown gr2 (S := []) (by intro k hk; cases hk))
          have hV2 := own_fr hV f2 (by simp)
          have hT2 := own_fr hT f2 (by simp)
          have o2' : w2.ownsRow w.heap.size 3 1 v2 1 (jcells (Cj.take 1)) := by rw [HCj.out.2.2.1]; exact o2
          clear o2 gr2 f2 hV hT hB
          go_loopw [16, 17] (fun v16 v17 wr => ∃ q : Nat, 1 ≤ q ∧ q ≤ K ∧ v17 = .int .i64 q ∧ wr.ownsRow w.heap.size 3 1 v16 q (jcells (Cj.take q)) ∧ wr.ownsRow w.heap.size 5 1 u14 j (byteCells (V.take j)) ∧ wr.ownsRow w.heap.size 9 1 u12 i (tcells (P i)) ∧ Below w.heap.size w wr) (fun _ v _ => K - (intOf v).toNat)
          case atStart => exact ⟨1, by omega, HB.out.1, rfl, o2', hV2, hT2, hB2⟩
          case round =>
            clear o2' hV2 hT2 hB2
            obtain ⟨q, hq1, hqK, rfl, hI, hV, hT, hB⟩ := hrel
            have hsz := hB.size
            by_cases hq2 : q < K
            · have l4 : (q : Int) < K := by omega
              obtain ⟨p, hp⟩ : ∃ p, q = p + 1 := ⟨q - 1, by omega⟩
              obtain ⟨s, hs⟩ : ∃ s, s = p * 32 := ⟨_, rfl⟩
              obtain ⟨r, hr⟩ : ∃ r, r = s + j := ⟨_, rfl⟩
              have e1 : (q : Int) - 1 = (p : Int) := by omega
              have e2 : (p : Int) * 32 = (s : Int) := by omega
              have e3 : (s : Int) + (j : Int) = (r : Int) := by omega
              have hK16 := HB.out.2.2.1
              have hKN := HB.out.2.1
              have hrb : r < 32 * (K - 1) := by omega
              have hrb2 : (r : Int) ≤ 1000 := by omega
              obtain ⟨hrc, gcr⟩ := HG.out.2 r hrb
              obtain ⟨y1, hy1⟩ : ∃ y1, y1 = (m ++ c).getD (32 + r) 0 := ⟨_, rfl⟩
              rw [← hy1] at gcr
              have hrI : (r : Int) < coins.size := by omega
              have htn : Cj.take (q + 1) = Cj.take q ++ [y1] := by
                rw [take_snoc0 Cj q (by rw [HCj.out.1]; exact hq2), HCj.out.2.1 q hq2, hy1]
                congr 3; omega
              have HTN := Lib.hid htn
              have A3 := At.alloc_new wr 3 #[Value.int .i64 (y1.toNat : Int)]
              clear htn hy1 hp hs hr hrb hK16 hKN
              go_wp2_with (first
                | (at_builtin; refine wpList_append_own _ rfl _ _ _ rfl w.heap.size 3 iI (.int .i64 0) 1 8 Tryd.underlying51 hiI zI0 zI1 zI2 rfl (by decide) _ q _ rfl (World.ownsRow.alloc hI _) ⟨wr.heap.size, 0, none⟩ 1 1 [.int .i64 (y1.toNat : Int)] rfl rfl (by intro j u hj; rw [addr_add', Nat.zero_add]; exact (A3.cell j).trans hj) (by intro u hu; simp at hu; subst hu; rfl) (by simp [maxLen]; omega) (by omega) (by simp; omega) ?_; intro v3 w3 o3 gr3 _)
                | fail)
              refine ⟨⟨q + 1, by omega, by omega, by simp, ?_, ?_, ?_, ?_⟩, by simp only [intOf]; omega⟩
              · rw [HTN.out]
                have e : jcells (Cj.take q ++ [y1]) = jcells (Cj.take q) ++ [.int .i64 (y1.toNat : Int)] := by simp [jcells, bt]
                rw [e]; exact o3
              · exact own_else (World.ownsRow.alloc hI _) (World.ownsRow.alloc hV _) (by decide) gr3 rfl
              · exact own_else (World.ownsRow.alloc hI _) (World.ownsRow.alloc hT _) (by decide) gr3 rfl
              · exact (hB.alloc (by omega) _).grown gr3 (by simp; omega) (fun k hk => (hI.lt k hk).1)
            · obtain rfl : q = K := by omega
              have l4 : ¬ (q : Int) < q := by omega
              have hCl := HCj.out.1
              rw [List.take_of_length_le (by omega)] at hI
              rcases ownsRow_forms hI with ⟨rfl, h0⟩ | ⟨g, cap, rfl⟩
              · omega
              have cv := fun w' (h : ∀ j u, (jcells Cj)[j]? = some u → w'.cell? ⟨g, j, none⟩ = some u) => rvalue_any Cj x g cap (by have := HB.out.2.2.1; have := HB.out.2.1; omega) w' h
              rw [hCl] at cv
              have hcell : ∀ j u, (jcells Cj)[j]? = some u → wr.cell? ⟨g, j, none⟩ = some u := fun j u hj => by
                have := World.ownsRow.cells hI rfl j u hj
                rw [addr_add', Nat.zero_add] at this
                exact this
              have cvv := cv wr hcell
              obtain ⟨z, hz⟩ : ∃ z, z = ev Cj x := ⟨_, rfl⟩
              rw [← hz] at cvv
              have hVn := HCj.out.2.2.2
              rw [← hz] at hVn
              have HVN := Lib.hid hVn
              have A4 := At.alloc_new wr 5 #[Value.int .u8 (bt z)]
              clear hz hVn cv hcell hCl
              go_wp2_with (first
                | (go_at_call 33; refine cvv.mono ?_; clear cvv; rintro e w4 ⟨rfl, rfl⟩)
                | (at_builtin; refine wpList_append_own _ rfl _ _ _ rfl w.heap.size 5 iB (.int .u8 0) 1 1 Tryd.underlying55 hiB zB0 zB1 zB2 rfl (by decide) _ j _ rfl (World.ownsRow.alloc hV _) ⟨wr.heap.size, 0, none⟩ 1 1 [.int .u8 (bt z)] rfl rfl (by intro j u hj; rw [addr_add', Nat.zero_add]; exact (A4.cell j).trans hj) (by intro u hu; simp at hu; subst hu; rfl) (by simp [maxLen]; omega) (by omega) (by simp; omega) ?_; intro v5 w5 o5 gr5 _)
                | fail)
              refine ⟨⟨j + 1, by omega, by simp, ?_, ?_, ?_⟩, by simp only [intOf]; omega⟩
              · rw [HVN.out]
                have e : byteCells (V.take j ++ [z]) = byteCells (V.take j) ++ [.int .u8 (bt z)] := by simp [byteCells, bt]
                rw [e]; exact o5
              · exact own_else (World.ownsRow.alloc hV _) (World.ownsRow.alloc hT _) (by decide) gr5 rfl
              · exact (hB.alloc (by omega) _).grown gr5 (by simp; omega) (fun k hk => (hV.lt k hk).1)
        · obtain rfl : j = 32 := by omega
          rw [List.take_of_length_le (by rw [HV.out.2.1]; omega)] at hV
          have hcv := run_strOwn Tryd.underlying55 Tryd.underlying5 Tryd.underlying9 hV
          obtain ⟨vs, hvs⟩ : ∃ vs : ByteArray, vs = ⟨V.toArray⟩ := ⟨_, rfl⟩
          have hvss : vs.size = 32 := by rw [hvs]; show V.toArray.size = 32; rw [List.size_toArray]; exact HV.out.2.1
          have hvd : vs.data.toList = V := by rw [hvs]
          rw [← hvs] at hcv
          have cs := cH x vs hvss
          rw [hvd] at cs
          obtain ⟨S, hS⟩ : ∃ S : ByteArray, S = ⟨(textS x (UInt8.ofNat K) id.data.toList V).toArray⟩ := ⟨_, rfl⟩
          have hps := HP.out.2.2 i
          rw [← HX.out.1, ← HV.out.1, ← hS] at hps
          rw [← hS] at cs
          have HPS := Lib.hid hps
          have hF : Fr [] w wr := Fr.ofBelow hB
          clear hvs hvss hvd hS hps
          go_wp2_with (first
            | (go_at_call 34; refine (cs _ (hP.keep hF) (hQ.keep hF)).mono ?_; clear cs; rintro e w6 ⟨rfl, f6⟩; have hT6 := own_fr hT f6 (by simp); have hB6 := (hF.trans f6).below; have hsz6 := hB6.size; have A6 := At.alloc_new w6 9 #[Value.string S])
            | (at_builtin; refine wpList_append_own _ rfl _ _ _ rfl w.heap.size 9 iT (.string ⟨#[]⟩) 1 16 Tryd.underlying22 hiT zT0 zT1 zT2 rfl (by decide) _ i _ rfl (World.ownsRow.alloc hT6 _) ⟨w6.heap.size, 0, none⟩ 1 1 [.string S] rfl rfl (by intro j u hj; rw [addr_add', Nat.zero_add]; exact (A6.cell j).trans hj) (by intro u hu; simp at hu; subst hu; rfl) (by simp [maxLen]; omega) (by omega) (by simp; omega) ?_; intro v7 w7 o7 gr7 _)
            | fail)
          refine ⟨⟨i + 1, by omega, by rw [HY.out.1], ?_, ?_⟩, ?_⟩
          · rw [HPS.out, tcells_app]; exact o7
          · exact (hB6.alloc (by omega) _).grown gr7 (by simp; omega) (fun k hk => (hT6.lt k hk).1)
          · simp only [intOf]; rw [HX.out.2, HY.out.2]; have := HB.out.2.2.1; omega
    · obtain rfl : i = N := by omega
      have l1 : ¬ bt x ≤ (i : Int) := by omega
      clear hx hxb hK1 hKN hN16 hml hcl
      go_wp2_with fail
      go_ret2
      exact ⟨_, rfl, hT, Fr.ofBelow hB⟩
end Go.Proofs.YtffhfmaphjjffaaDoor
