/- The law KdfRuns walked. -/
import Derived.Test.YtbpaknnnkmjgjaaDoorRunsB
import Derived.Test.YtbpaknnnkmjgjaaDoorUntil
import Derived.Deep.MidRow
namespace Go.Proofs.YtbpaknnnkmjgjaaDoor
open Go.RowKit Go.Lib Go.Joins Base
set_option linter.unusedVariables false
set_option linter.unusedSimpArgs false

theorem Ops.keep2 {w wr : World} {ad : Option Addr} {ops : List MOp} (f : Fr [] w wr) (h : Ops w ad ops) : Ops wr ad ops := h.keep f
theorem two_get (M : Nat → Nat) (i : Nat) (hi : i < 2) : [ptr (M 0), ptr (M 1)][i]? = some (.pointer (some ⟨M i, 0, none⟩)) := by
  have : i = 0 ∨ i = 1 := by omega
  rcases this with rfl | rfl <;> rfl
set_option maxRecDepth 100000 in
set_option maxHeartbeats 8000000 in
theorem runs_law {w : World} (k0 : ByteArray) (hk0 : k0.size ≤ 140737488351232) (k1 : ByteArray) (hk1 : k1.size ≤ 140737488351232) (v : Value) (ops : List MOp) (hv : IsOps w v ops) (hQ : RefRoots w) (hP : Powers w) (hI : First w) (hR : Roots w) :
    Calls Tryd.prog 5 #[.string k0, .string k1, v] w fun e w' => e = .returned (.bool true) ∧ Fr [] w w' := by
  obtain ⟨ad, cap, rfl, hops, hlen, hos⟩ := hv
  have hszA : (Tryd.prog.info? 35).map (·.size) = some 2 := by kernel_rfl
  have hszB : (Tryd.prog.info? 38).map (·.size) = some 2 := by kernel_rfl
  have n0 := fun w h1 h2 => newMac_any k0 (by omega) w h1 h2
  have n1 := fun w h1 h2 => newMac_any k1 (by omega) w h1 h2
  have r0 := rnew_any k0
  have r1 := rnew_any k1
  have two : ∀ a b : Nat, (#[ptr a, ptr b] : Array Value).all (·.oneCell') = true := fun a b => all_oneCell_toArray (cs := [ptr a, ptr b]) (by intro v hv; simp only [List.mem_cons, List.not_mem_nil, or_false] at hv; rcases hv with rfl | rfl <;> rfl)
  have HOP0 := Lib.hid hops
  have hF := Fr.refl [] w
  have mk1 : True := trivial
  have mk2 : True := trivial
  have HK := Lib.hid (And.intro hk0 (And.intro hk1 (And.intro hlen hos)))
  clear hk0 hk1 hlen hos
  go_enter Tryd.func5, Tryd.ntmps5
  go_upto_region 2 with (first
    | (go_at_call 19; clear mk1; refine (n0 _ (hI.keep hF) (hR.keep hF (by simp))).mono ?_; clear n0; rintro e w1 ⟨m0, p0, rfl, hm0, hp0, hM0, f1⟩; have hF := hF.trans f1; have HL0 := Lib.hid hM0.lt)
    | (go_at_call 19; refine (n1 _ (hI.keep hF) (hR.keep hF (by simp))).mono ?_; clear n1; rintro e w2 ⟨m1, p1, rfl, hm1, hp1, hM1, f2⟩; have hF2 := hF.trans f2; have HL1 := Lib.hid hM1.lt; have hA0 := At.alloc_new w2 35 #[.pointer none, .pointer none])
    | refine wpList_store_row rfl _ _ _ rfl _ _ rfl rfl _ _ hA0.out hszA rfl (two m0 m1) ?_
    | fail)
  have hA := hA0.setRow #[ptr m0, ptr m1]
  have fA : Fr [w2.heap.size] (w2.alloc (.cells #[.pointer none, .pointer none] 35)) ((w2.alloc (.cells #[.pointer none, .pointer none] 35)).setRow w2.heap.size #[ptr m0, ptr m1]) := Fr.setRow _ _ _ _ (.inl (by simp))
  have fA2 := (Fr.alloc [] w2 (.cells #[.pointer none, .pointer none] 35)).new fA (by simp)
  have hM0 := (hM0.keep f2 (by simp) (by simp)).keep fA2 (by simp) (by simp)
  have hM1 := hM1.keep fA2 (by simp) (by simp)
  have hFa := hF2.trans fA2
  have sz1 := hF.size
  have sz2 := f2.size
  have lt0 := hM0.lt
  have lt1 := hM1.lt
  have old0 : m0 < w1.heap.size ∧ p0 < w1.heap.size := HL0.out
  have old1 : m1 < w2.heap.size ∧ p1 < w2.heap.size := HL1.out
  obtain ⟨a, ha⟩ : ∃ a, a = w2.heap.size := ⟨_, rfl⟩
  have hszW : ((w2.alloc (.cells #[.pointer none, .pointer none] 35)).setRow w2.heap.size #[ptr m0, ptr m1]).heap.size = w2.heap.size + 1 := by simp
  change Code.wp _ _ _ _ ((w2.alloc (.cells #[.pointer none, .pointer none] 35)).setRow w2.heap.size #[ptr m0, ptr m1])
  generalize (w2.alloc (.cells #[.pointer none, .pointer none] 35)).setRow w2.heap.size #[ptr m0, ptr m1] = W1 at hA hM0 hM1 hFa hszW lt0 lt1 ⊢
  rw [← ha] at hA hszW ⊢
  have HN := Lib.hid (And.intro hm0 (And.intro hp0 (And.intro hm1 (And.intro hp1 (And.intro old0 (And.intro old1 (And.intro ha (And.intro hszW (And.intro sz1 sz2)))))))))
  clear hA0 fA fA2 f1 f2 hF2 hm0 hp0 hm1 hp1 old0 old1 ha hszW sz1 sz2 lt0 lt1 HL0 HL1
  go_upto_region 3 with (first
    | (go_at_call 20; clear mk2; refine (r0 _).mono ?_; clear r0; rintro e w3 ⟨rfl, hR0, f3⟩)
    | (go_at_call 20; refine (r1 _).mono ?_; clear r1; rintro e w4 ⟨rfl, hR1, f4⟩; have hB0 := At.alloc_new w4 38 #[.pointer none, .pointer none])
    | refine wpList_store_row rfl _ _ _ rfl _ _ rfl rfl _ _ hB0.out hszB rfl (two W1.heap.size w3.heap.size) ?_
    | fail)
  have hB := hB0.setRow #[ptr W1.heap.size, ptr w3.heap.size]
  have fB : Fr [w4.heap.size] (w4.alloc (.cells #[.pointer none, .pointer none] 38)) ((w4.alloc (.cells #[.pointer none, .pointer none] 38)).setRow w4.heap.size #[ptr W1.heap.size, ptr w3.heap.size]) := Fr.setRow _ _ _ _ (.inl (by simp))
  have fB2 := (Fr.alloc [] w4 (.cells #[.pointer none, .pointer none] 38)).new fB (by simp)
  have f34 := f3.trans f4
  have hA := fB2.keep (f34.keep hA (by simp)) (by simp)
  have hM0 := (hM0.keep f34 (by simp) (by simp)).keep fB2 (by simp) (by simp)
  have hM1 := (hM1.keep f34 (by simp) (by simp)).keep fB2 (by simp) (by simp)
  have ltR0 : W1.heap.size < w3.heap.size := At.lt hR0
  have ltR1 : w3.heap.size < w4.heap.size := At.lt hR1
  have hR0 : RMac _ W1.heap.size k0 ⟨#[]⟩ := fB2.keep (f4.keep hR0 (by simp)) (by simp)
  have hR1 : RMac _ w3.heap.size k1 ⟨#[]⟩ := fB2.keep hR1 (by simp)
  have hFb := (hFa.trans f34).trans fB2
  obtain ⟨hm0, hp0, hm1, hp1, old0, old1, ha, hszW, sz1, sz2⟩ := HN.out
  have ne0 := hM0.1
  have ne1 := hM1.1
  obtain ⟨hk0, hk1, hlen, hos⟩ := HK.out
  change Code.wp _ _ _ _ ((w4.alloc (.cells #[.pointer none, .pointer none] 38)).setRow w4.heap.size #[ptr W1.heap.size, ptr w3.heap.size])
  have hKB := KB.start hFb (by omega) (by omega) (a := a) (b := w4.heap.size) (by omega) hA hB hM0 hM1 hR0 hR1 hk0 hk1 (by omega) (by
    simp only [List.nodup_cons, List.mem_cons, List.not_mem_nil, or_false, not_or, not_false_eq_true, List.nodup_nil, and_true]
    omega)
  generalize (w4.alloc (.cells #[.pointer none, .pointer none] 38)).setRow w4.heap.size #[ptr W1.heap.size, ptr w3.heap.size] = W2 at hKB ⊢
  obtain ⟨b, hb⟩ : ∃ b, b = w4.heap.size := ⟨_, rfl⟩
  rw [← hb] at hKB ⊢
  have hops := hops.keep hKB.fr
  have q0 : W2.cell? ⟨a, 0, none⟩ = some (.pointer (some ⟨m0, 0, none⟩)) := hKB.ca.cell 0
  have q1 : W2.cell? ⟨a, 1, none⟩ = some (.pointer (some ⟨m1, 0, none⟩)) := hKB.ca.cell 1
  have cw := macWrite_nil ⟨#[120]⟩
  have cs := macSum_nil
  clear hb HN hB hB0 hA hM0 hM1 hR0 hR1 fB fB2 f34 f3 f4 ltR0 ltR1 hFb hFa hm0 hp0 hm1 hp1 old0 old1 ha hszW sz1 sz2 ne0 ne1 hk0 hk1 hlen hos two
  go_upto_region 7 with (first
    | (go_at_call 22; refine (cw _).mono ?_; rintro e w5 ⟨rfl, rfl⟩)
    | (go_at_call 23; refine (cs _).mono ?_; rintro e w6 ⟨rfl, rfl⟩)
    | (go_at_call 21; refine (num3_any _ _).mono ?_; rintro e w7 ⟨rfl, rfl⟩)
    | fail)
  have hlen := HK.out.2.2.1
  clear q0 q1 cw cs
  go_loopw [10, 11, 12, 13, 14, 15, 16] (fun v10 _ _ _ _ _ _ wr => ∃ (j : Nat) (M P R : Nat → Nat) (K T : Nat → ByteArray), j ≤ ops.length ∧ v10 = .int .i64 j ∧ KB w wr a b M P R K T ∧ Ops wr ad ops) (fun v _ _ _ _ _ _ _ => ops.length - (intOf v).toNat)
  case atStart => exact ⟨0, _, _, _, _, _, by omega, rfl, hKB, hops⟩
  case round =>
    clear hKB hops
    obtain ⟨j, M, P, R, K, T, hj, rfl, hB, hops⟩ := hrel
    by_cases hl : j < ops.length
    · have l1 : (j : Int) < ops.length := by omega
      obtain ⟨o, ho⟩ : ∃ o, ops[j]? = some o := ⟨_, List.getElem?_eq_getElem hl⟩
      obtain ⟨g, off, rfl, c0, c1, c2⟩ := hops j o ho
      have HOP := HOP0
      have hor := HK.out.2.2.2 o (List.mem_of_getElem? ho)
      have c1' : wr.cell? ⟨g, off + j * 3 + 1, none⟩ = some (.int .i64 o.place) := c1
      have c2' : wr.cell? ⟨g, off + j * 3 + 2, none⟩ = some (.string o.s) := c2
      have cp := fun w => place_any o.place hor.2 w
      have HO := Lib.hid hor.1
      obtain ⟨kind, hkd⟩ : ∃ k, k = o.kind := ⟨_, rfl⟩
      obtain ⟨d, hd⟩ : ∃ d, d = o.s := ⟨_, rfl⟩
      obtain ⟨pl, hpl⟩ : ∃ p, p = o.place := ⟨_, rfl⟩
      rw [← hkd] at c0
      rw [← hpl] at c1 c1' cp
      rw [← hd] at c2 c2' HO
      clear hor ho hkd hd hpl
      go_upto_region 11 with (first
        | (go_at_call 24; refine (cp _).mono ?_; clear cp; rintro e w8 ⟨i, hi, rfl, rfl⟩)
        | fail)
      have A0 := At.alloc_new wr 44 #[.int .i64 kind, .int .i64 pl, .string d]
      have fO := Fr.alloc [] wr (.cells #[.int .i64 kind, .int .i64 pl, .string d] 44)
      obtain ⟨t, ht⟩ : ∃ t, t = wr.heap.size := ⟨_, rfl⟩
      have hPt : P i ≠ t ∧ R i ≠ t ∧ a ≠ t ∧ b ≠ t := by
        have h1 := (hB.own i hi).lt
        have h2 := (hB.ref i hi).lt
        have h3 := hB.ca.lt
        have h4 := hB.cb.lt
        omega
      have hB := hB.keep fO
      have hops := hops.keep fO
      rw [← ht] at A0
      generalize wr.alloc (.cells #[.int .i64 kind, .int .i64 pl, .string d] 44) = W at A0 hB hops ⊢
      rw [← ht]
      have HT := Lib.hid hPt
      clear c0 c1 c1' c2 c2' fO ht hPt
      have l3 : (i : Int) < 2 := by omega
      have qk := A0.cell 0
      have qs := A0.cell 2
      have hsz := hB.sz i hi
      have hfar := hB.far i hi
      have hdis := hB.dis i i hi hi
      have tl : ∀ b : ByteArray, b.data.toList.length = b.size := fun b => by simp
      have ga : ∀ w' (h : At w' a 35 [ptr (M 0), ptr (M 1)]), w'.cell? ⟨a, i, none⟩ = some (.pointer (some ⟨M i, 0, none⟩)) := fun w' h => (h.cell i).trans (two_get M i hi)
      have gb : ∀ w' (h : At w' b 38 [ptr (R 0), ptr (R 1)]), w'.cell? ⟨b, i, none⟩ = some (.pointer (some ⟨R i, 0, none⟩)) := fun w' h => (h.cell i).trans (two_get R i hi)
      have qa := ga _ hB.ca
      have qb := gb _ hB.cb
      by_cases e1 : kind = 1
      · subst e1
        by_cases hfit : (T i).size + d.size ≤ 1099511627712
        · have hopsW := HOP.out
          have cO := fun w h1 h2 => macWrite_any (K i).data.toList (T i).data.toList (M i) (P i) d (by rw [tl]; exact hfit) w h1 h2
          have cQ := fun w h => rwrite_any (R i) (K i) (T i) d hfit w h
          go_upto_region 13 with fail
          refine wp_region_until (fun w' => w'.cell? ⟨a, i, none⟩ = some (.pointer (some ⟨M i, 0, none⟩)) ∧ w'.cell? ⟨t, 2, none⟩ = some (.string d)) (fun _ => True) 1000 (by rfl) ?_
          have hT : True := trivial
          have s0 : W.drew.cell? ⟨a, i, none⟩ = some (.pointer (some ⟨M i, 0, none⟩)) ∧ W.drew.cell? ⟨t, 2, none⟩ = some (.string d) := ⟨qa, qs⟩
          refine until_s0 0 (v := ?_) rfl (by kernel_rfl) (fun _ _ _ h => h) (Or.inl ⟨by rfl, ?_⟩) (by assumption) (fun h => by first | assumption | exact absurd (h : true = false) (by decide)) ?_
          rotate_left
          · intro w hSw; (try dsimp only at hSw); (try go_simp); (try with_reducible rfl)
          try simp only [Act.put, List.setIfInBounds_toArray, List.set_cons_zero, List.set_cons_succ]
          refine until_s0 1 (v := ?_) rfl (by kernel_rfl) (fun _ _ _ h => h) (Or.inl ⟨by rfl, ?_⟩) (by assumption) (fun h => by first | assumption | exact absurd (h : true = false) (by decide)) ?_
          rotate_left
          · intro w hSw; (try dsimp only at hSw); (try go_simp); (try with_reducible rfl)
          try simp only [Act.put, List.setIfInBounds_toArray, List.set_cons_zero, List.set_cons_succ]
          refine until_s0 2 (v := ?_) rfl (by kernel_rfl) (fun _ _ _ h => h) (Or.inl ⟨by rfl, ?_⟩) (by assumption) (fun h => by first | assumption | exact absurd (h : true = false) (by decide)) ?_
          rotate_left
          · intro w hSw; (try dsimp only at hSw); (try go_simp); (try with_reducible rfl)
          try simp only [Act.put, List.setIfInBounds_toArray, List.set_cons_zero, List.set_cons_succ]
          refine until_s0 3 (v := ?_) rfl (by kernel_rfl) (fun _ _ _ h => h) (Or.inl ⟨by rfl, ?_⟩) (by assumption) (fun h => by first | assumption | exact absurd (h : true = false) (by decide)) ?_
          rotate_left
          · intro w hSw; (try dsimp only at hSw); (try go_simp); (try with_reducible rfl)
          try simp only [Act.put, List.setIfInBounds_toArray, List.set_cons_zero, List.set_cons_succ]
          refine until_s0 4 (v := ?_) rfl (by kernel_rfl) (fun _ _ _ h => h) (Or.inl ⟨by rfl, ?_⟩) (by assumption) (fun h => by first | assumption | exact absurd (h : true = false) (by decide)) ?_
          rotate_left
          · intro w hSw; (try dsimp only at hSw); (try go_simp); (try with_reducible rfl)
          try simp only [Act.put, List.setIfInBounds_toArray, List.set_cons_zero, List.set_cons_succ]
          refine until_sole 5 rfl (by kernel_rfl) (by rfl) ?_
          intro K' hK
          go_simp
          go_at_call 22
          refine (cO _ (hR.keep (hB.fr.trans (Fr.drew _ _)) (by simp)) ((hB.own i hi).keep (Fr.drew [] _) (by simp) (by simp))).mono ?_
          rintro _ w9 ⟨rfl, h9, f9⟩
          go_wp2_with fail
          have f9 : Fr [P i] W w9 := (Fr.drew _ _).trans f9
          have ca9 := f9.keep hB.ca (by simp; exact Ne.symm hfar.1)
          have cb9 := f9.keep hB.cb (by simp; exact Ne.symm hfar.2.1)
          have o9 := f9.keep A0 (by simp; exact Ne.symm HT.out.1)
          have r9 : RMac w9 (R i) (K i) (T i) := f9.keep (hB.ref i hi) (by simp; exact Ne.symm hdis.2.1)
          have s9 : w9.cell? ⟨a, i, none⟩ = some (.pointer (some ⟨M i, 0, none⟩)) ∧ w9.cell? ⟨t, 2, none⟩ = some (.string d) := ⟨ga _ ca9, o9.cell 2⟩
          refine hK _ _ s9 (fun _ => trivial) ?_
          clear hK s0
          refine until_s0 6 (v := ?_) rfl (by kernel_rfl) (fun _ _ _ h => h) (Or.inl ⟨by rfl, ?_⟩) (by assumption) (fun h => by first | assumption | exact absurd (h : true = false) (by decide)) ?_
          rotate_left
          · intro w hSw; (try dsimp only at hSw); (try go_simp); (try with_reducible rfl)
          try simp only [Act.put, List.setIfInBounds_toArray, List.set_cons_zero, List.set_cons_succ]
          refine until_done (by kernel_rfl) ?_ _
          have qb9 := gb _ cb9
          have qs9 := o9.cell 2
          clear qa qb qs
          go_upto_region 14 with fail
          refine wp_region_until (fun w' => w'.cell? ⟨b, i, none⟩ = some (.pointer (some ⟨R i, 0, none⟩)) ∧ w'.cell? ⟨t, 2, none⟩ = some (.string d)) (fun _ => True) 1000 (by rfl) ?_
          have s1 : w9.drew.cell? ⟨b, i, none⟩ = some (.pointer (some ⟨R i, 0, none⟩)) ∧ w9.drew.cell? ⟨t, 2, none⟩ = some (.string d) := ⟨qb9, qs9⟩
          clear s9
          refine until_s0 0 (v := ?_) rfl (by kernel_rfl) (fun _ _ _ h => h) (Or.inl ⟨by rfl, ?_⟩) (by assumption) (fun h => by first | assumption | exact absurd (h : true = false) (by decide)) ?_
          rotate_left
          · intro w hSw; (try dsimp only at hSw); (try go_simp); (try with_reducible rfl)
          try simp only [Act.put, List.setIfInBounds_toArray, List.set_cons_zero, List.set_cons_succ]
          refine until_s0 1 (v := ?_) rfl (by kernel_rfl) (fun _ _ _ h => h) (Or.inl ⟨by rfl, ?_⟩) (by assumption) (fun h => by first | assumption | exact absurd (h : true = false) (by decide)) ?_
          rotate_left
          · intro w hSw; (try dsimp only at hSw); (try go_simp); (try with_reducible rfl)
          try simp only [Act.put, List.setIfInBounds_toArray, List.set_cons_zero, List.set_cons_succ]
          refine until_s0 2 (v := ?_) rfl (by kernel_rfl) (fun _ _ _ h => h) (Or.inl ⟨by rfl, ?_⟩) (by assumption) (fun h => by first | assumption | exact absurd (h : true = false) (by decide)) ?_
          rotate_left
          · intro w hSw; (try dsimp only at hSw); (try go_simp); (try with_reducible rfl)
          try simp only [Act.put, List.setIfInBounds_toArray, List.set_cons_zero, List.set_cons_succ]
          refine until_s0 3 (v := ?_) rfl (by kernel_rfl) (fun _ _ _ h => h) (Or.inl ⟨by rfl, ?_⟩) (by assumption) (fun h => by first | assumption | exact absurd (h : true = false) (by decide)) ?_
          rotate_left
          · intro w hSw; (try dsimp only at hSw); (try go_simp); (try with_reducible rfl)
          try simp only [Act.put, List.setIfInBounds_toArray, List.set_cons_zero, List.set_cons_succ]
          refine until_s0 4 (v := ?_) rfl (by kernel_rfl) (fun _ _ _ h => h) (Or.inl ⟨by rfl, ?_⟩) (by assumption) (fun h => by first | assumption | exact absurd (h : true = false) (by decide)) ?_
          rotate_left
          · intro w hSw; (try dsimp only at hSw); (try go_simp); (try with_reducible rfl)
          try simp only [Act.put, List.setIfInBounds_toArray, List.set_cons_zero, List.set_cons_succ]
          refine until_sole 5 rfl (by kernel_rfl) (by rfl) ?_
          intro K' hK
          go_simp
          go_at_call 25
          refine (cQ _ (Fr.keep (Fr.drew [] _) r9 (by simp))).mono ?_
          rintro _ w10 ⟨rfl, h10, f10⟩
          go_wp2_with fail
          have f10 : Fr [R i] w9 w10 := (Fr.drew _ _).trans f10
          have ca10 := f10.keep ca9 (by simp; exact Ne.symm hfar.2.2.1)
          have cb10 := f10.keep cb9 (by simp; exact Ne.symm hfar.2.2.2.1)
          have o10 := f10.keep o9 (by simp; exact Ne.symm HT.out.2.1)
          have s10 : w10.cell? ⟨b, i, none⟩ = some (.pointer (some ⟨R i, 0, none⟩)) ∧ w10.cell? ⟨t, 2, none⟩ = some (.string d) := ⟨gb _ cb10, o10.cell 2⟩
          refine hK _ _ s10 (fun _ => trivial) ?_
          clear hK s1
          refine until_s0 6 (v := ?_) rfl (by kernel_rfl) (fun _ _ _ h => h) (Or.inl ⟨by rfl, ?_⟩) (by assumption) (fun h => by first | assumption | exact absurd (h : true = false) (by decide)) ?_
          rotate_left
          · intro w hSw; (try dsimp only at hSw); (try go_simp); (try with_reducible rfl)
          try simp only [Act.put, List.setIfInBounds_toArray, List.set_cons_zero, List.set_cons_succ]
          refine until_done (by kernel_rfl) ?_ _
          go_wp2_with (first
            | (go_at_call 21; refine (num3_any _ _).mono ?_; rintro e w7 ⟨rfl, rfl⟩)
            | fail)
          have hB := hB.write i hi d h9 f9 h10 f10 hfit
          have hops := Ops.keep2 hB.fr hopsW
          refine ⟨⟨j + 1, M, P, R, K, _, by omega, by simp, hB, hops⟩, by simp only [intOf]; omega⟩
        · skip
          have cO := fun w h => macWrite_big (K i).data.toList (T i).data.toList (M i) (P i) d (by rw [tl]; exact hsz.2) (by rw [tl]; omega) w h
          have cQ := fun w h => rwrite_big (R i) (K i) (T i) d hsz.2 (by omega) w h
          go_upto_region 13 with fail
          refine wp_region_until (fun w' => w'.cell? ⟨a, i, none⟩ = some (.pointer (some ⟨M i, 0, none⟩)) ∧ w'.cell? ⟨t, 2, none⟩ = some (.string d)) (fun _ => True) 1000 (by rfl) ?_
          have hT : True := trivial
          have s0 : W.drew.cell? ⟨a, i, none⟩ = some (.pointer (some ⟨M i, 0, none⟩)) ∧ W.drew.cell? ⟨t, 2, none⟩ = some (.string d) := ⟨qa, qs⟩
          refine until_s0 0 (v := ?_) rfl (by kernel_rfl) (fun _ _ _ h => h) (Or.inl ⟨by rfl, ?_⟩) (by assumption) (fun h => by first | assumption | exact absurd (h : true = false) (by decide)) ?_
          rotate_left
          · intro w hSw; (try dsimp only at hSw); (try go_simp); (try with_reducible rfl)
          try simp only [Act.put, List.setIfInBounds_toArray, List.set_cons_zero, List.set_cons_succ]
          refine until_s0 1 (v := ?_) rfl (by kernel_rfl) (fun _ _ _ h => h) (Or.inl ⟨by rfl, ?_⟩) (by assumption) (fun h => by first | assumption | exact absurd (h : true = false) (by decide)) ?_
          rotate_left
          · intro w hSw; (try dsimp only at hSw); (try go_simp); (try with_reducible rfl)
          try simp only [Act.put, List.setIfInBounds_toArray, List.set_cons_zero, List.set_cons_succ]
          refine until_s0 2 (v := ?_) rfl (by kernel_rfl) (fun _ _ _ h => h) (Or.inl ⟨by rfl, ?_⟩) (by assumption) (fun h => by first | assumption | exact absurd (h : true = false) (by decide)) ?_
          rotate_left
          · intro w hSw; (try dsimp only at hSw); (try go_simp); (try with_reducible rfl)
          try simp only [Act.put, List.setIfInBounds_toArray, List.set_cons_zero, List.set_cons_succ]
          refine until_s0 3 (v := ?_) rfl (by kernel_rfl) (fun _ _ _ h => h) (Or.inl ⟨by rfl, ?_⟩) (by assumption) (fun h => by first | assumption | exact absurd (h : true = false) (by decide)) ?_
          rotate_left
          · intro w hSw; (try dsimp only at hSw); (try go_simp); (try with_reducible rfl)
          try simp only [Act.put, List.setIfInBounds_toArray, List.set_cons_zero, List.set_cons_succ]
          refine until_s0 4 (v := ?_) rfl (by kernel_rfl) (fun _ _ _ h => h) (Or.inl ⟨by rfl, ?_⟩) (by assumption) (fun h => by first | assumption | exact absurd (h : true = false) (by decide)) ?_
          rotate_left
          · intro w hSw; (try dsimp only at hSw); (try go_simp); (try with_reducible rfl)
          try simp only [Act.put, List.setIfInBounds_toArray, List.set_cons_zero, List.set_cons_succ]
          refine until_sole 5 rfl (by kernel_rfl) (by rfl) ?_
          intro K' hK
          go_simp
          go_at_call 22
          refine (cO _ ((hB.own i hi).keep (Fr.drew [] _) (by simp) (by simp))).mono ?_
          rintro _ w9 ⟨rfl, rfl⟩
          go_wp2_with fail
          have hB := hB.keep (Fr.drew [] W)
          have hops := hops.keep (Fr.drew [] W)
          have ca9 := hB.ca
          have cb9 := hB.cb
          have o9 := A0.drew
          have r9 := hB.ref i hi
          have s9 : W.drew.cell? ⟨a, i, none⟩ = some (.pointer (some ⟨M i, 0, none⟩)) ∧ W.drew.cell? ⟨t, 2, none⟩ = some (.string d) := ⟨ga _ ca9, o9.cell 2⟩
          refine hK _ _ s9 (fun _ => trivial) ?_
          clear hK s0
          refine until_s0 6 (v := ?_) rfl (by kernel_rfl) (fun _ _ _ h => h) (Or.inl ⟨by rfl, ?_⟩) (by assumption) (fun h => by first | assumption | exact absurd (h : true = false) (by decide)) ?_
          rotate_left
          · intro w hSw; (try dsimp only at hSw); (try go_simp); (try with_reducible rfl)
          try simp only [Act.put, List.setIfInBounds_toArray, List.set_cons_zero, List.set_cons_succ]
          refine until_done (by kernel_rfl) ?_ _
          have qb9 := gb _ cb9
          have qs9 := o9.cell 2
          clear qa qb qs
          go_upto_region 14 with fail
          refine wp_region_until (fun w' => w'.cell? ⟨b, i, none⟩ = some (.pointer (some ⟨R i, 0, none⟩)) ∧ w'.cell? ⟨t, 2, none⟩ = some (.string d)) (fun _ => True) 1000 (by rfl) ?_
          have s1 : W.drew.drew.cell? ⟨b, i, none⟩ = some (.pointer (some ⟨R i, 0, none⟩)) ∧ W.drew.drew.cell? ⟨t, 2, none⟩ = some (.string d) := ⟨qb9, qs9⟩
          clear s9
          refine until_s0 0 (v := ?_) rfl (by kernel_rfl) (fun _ _ _ h => h) (Or.inl ⟨by rfl, ?_⟩) (by assumption) (fun h => by first | assumption | exact absurd (h : true = false) (by decide)) ?_
          rotate_left
          · intro w hSw; (try dsimp only at hSw); (try go_simp); (try with_reducible rfl)
          try simp only [Act.put, List.setIfInBounds_toArray, List.set_cons_zero, List.set_cons_succ]
          refine until_s0 1 (v := ?_) rfl (by kernel_rfl) (fun _ _ _ h => h) (Or.inl ⟨by rfl, ?_⟩) (by assumption) (fun h => by first | assumption | exact absurd (h : true = false) (by decide)) ?_
          rotate_left
          · intro w hSw; (try dsimp only at hSw); (try go_simp); (try with_reducible rfl)
          try simp only [Act.put, List.setIfInBounds_toArray, List.set_cons_zero, List.set_cons_succ]
          refine until_s0 2 (v := ?_) rfl (by kernel_rfl) (fun _ _ _ h => h) (Or.inl ⟨by rfl, ?_⟩) (by assumption) (fun h => by first | assumption | exact absurd (h : true = false) (by decide)) ?_
          rotate_left
          · intro w hSw; (try dsimp only at hSw); (try go_simp); (try with_reducible rfl)
          try simp only [Act.put, List.setIfInBounds_toArray, List.set_cons_zero, List.set_cons_succ]
          refine until_s0 3 (v := ?_) rfl (by kernel_rfl) (fun _ _ _ h => h) (Or.inl ⟨by rfl, ?_⟩) (by assumption) (fun h => by first | assumption | exact absurd (h : true = false) (by decide)) ?_
          rotate_left
          · intro w hSw; (try dsimp only at hSw); (try go_simp); (try with_reducible rfl)
          try simp only [Act.put, List.setIfInBounds_toArray, List.set_cons_zero, List.set_cons_succ]
          refine until_s0 4 (v := ?_) rfl (by kernel_rfl) (fun _ _ _ h => h) (Or.inl ⟨by rfl, ?_⟩) (by assumption) (fun h => by first | assumption | exact absurd (h : true = false) (by decide)) ?_
          rotate_left
          · intro w hSw; (try dsimp only at hSw); (try go_simp); (try with_reducible rfl)
          try simp only [Act.put, List.setIfInBounds_toArray, List.set_cons_zero, List.set_cons_succ]
          refine until_sole 5 rfl (by kernel_rfl) (by rfl) ?_
          intro K' hK
          go_simp
          go_at_call 25
          refine (cQ _ (Fr.keep (Fr.drew [] _) r9 (by simp))).mono ?_
          rintro _ w10 ⟨rfl, rfl⟩
          go_wp2_with fail
          have hB := hB.keep (Fr.drew [] W.drew)
          have hops := hops.keep (Fr.drew [] W.drew)
          have s10 : W.drew.drew.cell? ⟨b, i, none⟩ = some (.pointer (some ⟨R i, 0, none⟩)) ∧ W.drew.drew.cell? ⟨t, 2, none⟩ = some (.string d) := ⟨gb _ hB.cb, o9.drew.cell 2⟩
          refine hK _ _ s10 (fun _ => trivial) ?_
          clear hK s1
          refine until_s0 6 (v := ?_) rfl (by kernel_rfl) (fun _ _ _ h => h) (Or.inl ⟨by rfl, ?_⟩) (by assumption) (fun h => by first | assumption | exact absurd (h : true = false) (by decide)) ?_
          rotate_left
          · intro w hSw; (try dsimp only at hSw); (try go_simp); (try with_reducible rfl)
          try simp only [Act.put, List.setIfInBounds_toArray, List.set_cons_zero, List.set_cons_succ]
          refine until_done (by kernel_rfl) ?_ _
          go_wp2_with (first
            | (go_at_call 21; refine (num3_any _ _).mono ?_; rintro e w7 ⟨rfl, rfl⟩)
            | fail)
          refine ⟨⟨j + 1, M, P, R, K, T, by omega, by simp, hB, hops⟩, by simp only [intOf]; omega⟩
      · have hab := hB.ab
        have hat : a ≠ t := HT.out.2.2.1
        by_cases e2 : kind = 2
        · subst e2
          have cS := fun w h0 h1 h2 => macSum_any (K i).data.toList (T i).data.toList (M i) (P i) (by rw [tl]; exact hsz.2) w h0 h1 h2
          have cQ := fun w h0 h1 h2 => rsum_mac (R i) (K i) (T i) (by omega) (by omega) w h0 h1 h2
          generalize (⟨(hmacL (K i).data.toList (T i).data.toList).toArray⟩ : ByteArray) = X at cS cQ
          clear hsz hfar hdis tl e1
          go_wp2_with (first
            | (go_at_call 23; refine (cS _ (hI.keep hB.fr) (hR.keep hB.fr (by simp)) (hB.own i hi)).mono ?_; clear cS; rintro e w9 ⟨rfl, f9⟩; have hB := hB.keep f9; have hops := hops.keep f9; have qb := gb _ hB.cb)
            | (go_at_call 26; refine (cQ _ (hP.keep hB.fr) (hQ.keep hB.fr) (hB.ref i hi)).mono ?_; clear cQ; rintro e w10 ⟨rfl, f10⟩; have hB := hB.keep f10; have hops := hops.keep f10)
            | fail)
          refine ⟨⟨j + 1, M, P, R, K, T, by omega, by simp, hB, hops⟩, by simp only [intOf]; omega⟩
        · by_cases e3 : kind = 3
          · subst e3
            have cN := fun w h1 h2 => newMac_any d (by have := HO.out; omega) w h1 h2
            have hopsW := HOP.out
            clear hsz hfar hdis tl e1 e2
            go_wp2_with (first
              | (go_at_call 19; refine (cN _ (hI.keep hB.fr) (hR.keep hB.fr (by simp))).mono ?_; clear cN; rintro e w9 ⟨m, p, rfl, hm, hp, hM, f9⟩; have ca9 := f9.keep hB.ca (by simp); have qa := ga _ ca9; have za := ca9.frozen i; have qs := (f9.keep A0 (by simp)).cell 2)
              | (go_at_call 20; refine (rnew_any d _).mono ?_; rintro e w10 ⟨rfl, hRn, f10⟩; have cb10 := f10.keep ((f9.keep hB.cb (by simp)).setCell_other (a := ⟨a, i, none⟩) (Ne.symm hab) (ptr m)) (by simp); have qb10 := gb _ cb10; have zb := cb10.frozen i; have qa10 : w10.cell? ⟨a, i, none⟩ = some (.pointer (some ⟨m, 0, none⟩)) := ((f10.keep (ca9.setCell i (ptr m)) (by simp)).cell i).trans (by rw [List.getElem?_set_self (by simpa using hi)]; rfl))
              | fail)
            have hB := hB.renew i hi d m p _ HO.out hm hp hM f9 (Nat.le_refl _) hRn f10
            have hz : (w9.setCell ⟨a, i, none⟩ (ptr m)).heap.size = w9.heap.size := by simp [World.setCell]
            rw [hz] at hB
            have hops := Ops.keep2 hB.fr hopsW
            refine ⟨⟨j + 1, _, _, _, _, _, by omega, by simp, hB, hops⟩, by simp only [intOf]; omega⟩
          · have b1 : (kind == 1) = false := by simpa using e1
            have b2 : (kind == 2) = false := by simpa using e2
            have b3 : (kind == 3) = false := by simpa using e3
            clear hsz hfar hdis tl e1 e2 e3
            go_wp2_with fail
            refine ⟨⟨j + 1, M, P, R, K, T, by omega, by simp, hB, hops⟩, by simp only [intOf]; omega⟩
    · obtain rfl : j = ops.length := by omega
      have l1 : ¬ (ops.length : Int) < ops.length := by omega
      have s0' := hB.sz 0 (by omega)
      have s1' := hB.sz 1 (by omega)
      have tl : ∀ b : ByteArray, b.data.toList.length = b.size := fun b => by simp
      have c0 := fun w h0 h1 h2 => macSum_any (K 0).data.toList (T 0).data.toList (M 0) (P 0) (by rw [tl]; exact s0'.2) w h0 h1 h2
      have d0 := fun w h0 h1 h2 => rsum_mac (R 0) (K 0) (T 0) (by omega) (by omega) w h0 h1 h2
      have c1 := fun w h0 h1 h2 => macSum_any (K 1).data.toList (T 1).data.toList (M 1) (P 1) (by rw [tl]; exact s1'.2) w h0 h1 h2
      have d1 := fun w h0 h1 h2 => rsum_mac (R 1) (K 1) (T 1) (by omega) (by omega) w h0 h1 h2
      generalize (⟨(hmacL (K 0).data.toList (T 0).data.toList).toArray⟩ : ByteArray) = X0 at c0 d0
      generalize (⟨(hmacL (K 1).data.toList (T 1).data.toList).toArray⟩ : ByteArray) = X1 at c1 d1
      have mkS : ∀ w', KB w w' a b M P R K T → w'.cell? ⟨a, 0, none⟩ = some (.pointer (some ⟨M 0, 0, none⟩)) ∧ w'.cell? ⟨a, 1, none⟩ = some (.pointer (some ⟨M 1, 0, none⟩)) ∧ w'.cell? ⟨b, 0, none⟩ = some (.pointer (some ⟨R 0, 0, none⟩)) ∧ w'.cell? ⟨b, 1, none⟩ = some (.pointer (some ⟨R 1, 0, none⟩)) := fun w' h => ⟨h.ca.cell 0, h.ca.cell 1, h.cb.cell 0, h.cb.cell 1⟩
      clear s0' s1' tl
      go_wp2_with fail
      refine wp_region_until (fun w' => w'.cell? ⟨a, 0, none⟩ = some (.pointer (some ⟨M 0, 0, none⟩)) ∧ w'.cell? ⟨a, 1, none⟩ = some (.pointer (some ⟨M 1, 0, none⟩)) ∧ w'.cell? ⟨b, 0, none⟩ = some (.pointer (some ⟨R 0, 0, none⟩)) ∧ w'.cell? ⟨b, 1, none⟩ = some (.pointer (some ⟨R 1, 0, none⟩))) (fun _ => True) 1000 (by rfl) ?_
      have hT : True := trivial
      have hB := hB.keep (Fr.drew _ _)
      have s0 := mkS _ hB
      refine until_s0 0 (v := ?_) rfl (by kernel_rfl) (fun _ _ _ h => h) (Or.inl ⟨by rfl, ?_⟩) (by assumption) (fun h => by first | assumption | exact absurd (h : true = false) (by decide)) ?_
      rotate_left
      · intro w hSw; (try dsimp only at hSw); (try go_simp); (try with_reducible rfl)
      try simp only [Act.put, List.setIfInBounds_toArray, List.set_cons_zero, List.set_cons_succ]
      refine until_s0 1 (v := ?_) rfl (by kernel_rfl) (fun _ _ _ h => h) (Or.inl ⟨by rfl, ?_⟩) (by assumption) (fun h => by first | assumption | exact absurd (h : true = false) (by decide)) ?_
      rotate_left
      · intro w hSw; (try dsimp only at hSw); (try go_simp); (try with_reducible rfl)
      try simp only [Act.put, List.setIfInBounds_toArray, List.set_cons_zero, List.set_cons_succ]
      refine until_s0 3 (v := ?_) rfl (by kernel_rfl) (fun _ _ _ h => h) (Or.inl ⟨by rfl, ?_⟩) (by assumption) (fun h => by first | assumption | exact absurd (h : true = false) (by decide)) ?_
      rotate_left
      · intro w hSw; (try dsimp only at hSw); (try go_simp); (try with_reducible rfl)
      try simp only [Act.put, List.setIfInBounds_toArray, List.set_cons_zero, List.set_cons_succ]
      refine until_s0 4 (v := ?_) rfl (by kernel_rfl) (fun _ _ _ h => h) (Or.inl ⟨by rfl, ?_⟩) (by assumption) (fun h => by first | assumption | exact absurd (h : true = false) (by decide)) ?_
      rotate_left
      · intro w hSw; (try dsimp only at hSw); (try go_simp); (try with_reducible rfl)
      try simp only [Act.put, List.setIfInBounds_toArray, List.set_cons_zero, List.set_cons_succ]
      refine until_sole 2 rfl (by kernel_rfl) (by rfl) ?_
      intro K' hK
      go_simp
      go_at_call 23
      refine (c0 _ (hI.keep hB.fr) (hR.keep hB.fr (by simp)) (hB.own 0 (by omega))).mono ?_
      rintro _ w9 ⟨rfl, f9⟩
      go_wp2_with fail
      have hB := hB.keep f9
      have s9 := mkS _ hB
      refine hK _ _ s9 (fun _ => trivial) ?_
      clear hK s0
      skip
      refine until_sole 5 rfl (by kernel_rfl) (by rfl) ?_
      intro K' hK
      go_simp
      go_at_call 26
      refine (d0 _ (hP.keep hB.fr) (hQ.keep hB.fr) (hB.ref 0 (by omega))).mono ?_
      rintro _ w10 ⟨rfl, f10⟩
      go_wp2_with fail
      have hB := hB.keep f10
      have s10 := mkS _ hB
      refine hK _ _ s10 (fun _ => trivial) ?_
      clear hK s9
      refine until_s0 6 (v := ?_) rfl (by kernel_rfl) (fun _ _ _ h => h) (Or.inl ⟨by rfl, ?_⟩) (by assumption) (fun h => by first | assumption | exact absurd (h : true = false) (by decide)) ?_
      rotate_left
      · intro w hSw; (try dsimp only at hSw); (try go_simp); (try with_reducible rfl)
      try simp only [Act.put, List.setIfInBounds_toArray, List.set_cons_zero, List.set_cons_succ]
      refine until_s0 7 (v := ?_) rfl (by kernel_rfl) (fun _ _ _ h => h) (Or.inl ⟨by rfl, ?_⟩) (by assumption) (fun h => by first | assumption | exact absurd (h : true = false) (by decide)) ?_
      rotate_left
      · intro w hSw; (try dsimp only at hSw); (try go_simp); (try with_reducible rfl)
      try simp only [Act.put, List.setIfInBounds_toArray, List.set_cons_zero, List.set_cons_succ]
      refine until_s0 8 (v := ?_) rfl (by kernel_rfl) (fun _ _ _ h => h) (Or.inl ⟨by rfl, ?_⟩) (by assumption) (fun h => by first | assumption | exact absurd (h : true = false) (by decide)) ?_
      rotate_left
      · intro w hSw; (try dsimp only at hSw); (try go_simp); (try with_reducible rfl)
      try simp only [Act.put, List.setIfInBounds_toArray, List.set_cons_zero, List.set_cons_succ]
      refine until_s0 9 (v := ?_) rfl (by kernel_rfl) (fun _ _ _ h => h) (Or.inl ⟨by rfl, ?_⟩) (by assumption) (fun h => by first | assumption | exact absurd (h : true = false) (by decide)) ?_
      rotate_left
      · intro w hSw; (try dsimp only at hSw); (try go_simp); (try with_reducible rfl)
      try simp only [Act.put, List.setIfInBounds_toArray, List.set_cons_zero, List.set_cons_succ]
      refine until_s0 11 (v := ?_) rfl (by kernel_rfl) (fun _ _ _ h => h) (Or.inl ⟨by rfl, ?_⟩) (by assumption) (fun h => by first | assumption | exact absurd (h : true = false) (by decide)) ?_
      rotate_left
      · intro w hSw; (try dsimp only at hSw); (try go_simp); (try with_reducible rfl)
      try simp only [Act.put, List.setIfInBounds_toArray, List.set_cons_zero, List.set_cons_succ]
      refine until_s0 12 (v := ?_) rfl (by kernel_rfl) (fun _ _ _ h => h) (Or.inl ⟨by rfl, ?_⟩) (by assumption) (fun h => by first | assumption | exact absurd (h : true = false) (by decide)) ?_
      rotate_left
      · intro w hSw; (try dsimp only at hSw); (try go_simp); (try with_reducible rfl)
      try simp only [Act.put, List.setIfInBounds_toArray, List.set_cons_zero, List.set_cons_succ]
      refine until_sole 10 rfl (by kernel_rfl) (by rfl) ?_
      intro K' hK
      go_simp
      go_at_call 23
      refine (c1 _ (hI.keep hB.fr) (hR.keep hB.fr (by simp)) (hB.own 1 (by omega))).mono ?_
      rintro _ w11 ⟨rfl, f11⟩
      go_wp2_with fail
      have hB := hB.keep f11
      have s11 := mkS _ hB
      refine hK _ _ s11 (fun _ => trivial) ?_
      clear hK s10
      skip
      refine until_sole 13 rfl (by kernel_rfl) (by rfl) ?_
      intro K' hK
      go_simp
      go_at_call 26
      refine (d1 _ (hP.keep hB.fr) (hQ.keep hB.fr) (hB.ref 1 (by omega))).mono ?_
      rintro _ w12 ⟨rfl, f12⟩
      go_wp2_with fail
      have hB := hB.keep f12
      have s12 := mkS _ hB
      refine hK _ _ s12 (fun _ => trivial) ?_
      clear hK s11
      refine until_s0 14 (v := ?_) rfl (by kernel_rfl) (fun _ _ _ h => h) (Or.inl ⟨by rfl, ?_⟩) (by assumption) (fun h => by first | assumption | exact absurd (h : true = false) (by decide)) ?_
      rotate_left
      · intro w hSw; (try dsimp only at hSw); (try go_simp); (try with_reducible rfl)
      try simp only [Act.put, List.setIfInBounds_toArray, List.set_cons_zero, List.set_cons_succ]
      refine until_s0 15 (v := ?_) rfl (by kernel_rfl) (fun _ _ _ h => h) (Or.inl ⟨by rfl, ?_⟩) (by assumption) (fun h => by first | assumption | exact absurd (h : true = false) (by decide)) ?_
      rotate_left
      · intro w hSw; (try dsimp only at hSw); (try go_simp); (try with_reducible rfl)
      try simp only [Act.put, List.setIfInBounds_toArray, List.set_cons_zero, List.set_cons_succ]
      refine until_s0 16 (v := ?_) rfl (by kernel_rfl) (fun _ _ _ h => h) (Or.inl ⟨by rfl, ?_⟩) (by assumption) (fun h => by first | assumption | exact absurd (h : true = false) (by decide)) ?_
      rotate_left
      · intro w hSw; (try dsimp only at hSw); (try go_simp); (try with_reducible rfl)
      try simp only [Act.put, List.setIfInBounds_toArray, List.set_cons_zero, List.set_cons_succ]
      refine until_done (by kernel_rfl) ?_ _
      go_wp2_with fail
      go_ret
      exact ⟨rfl, hB.fr⟩
end Go.Proofs.YtbpaknnnkmjgjaaDoor
