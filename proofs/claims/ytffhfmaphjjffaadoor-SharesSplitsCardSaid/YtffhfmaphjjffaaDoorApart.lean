/- Four lists are written over, one by one, and grown; then all are looked at: the law's own function walked. -/
import Derived.Test.YtffhfmaphjjffaaDoorApartP
import Derived.Test.YtffhfmaphjjffaaDoorUntil
namespace Go.Proofs.YtffhfmaphjjffaaDoor
open Go.RowKit Go.Lib Go.Joins Base
set_option linter.unusedVariables false
set_option linter.unusedSimpArgs false

def mkS (i : Nat) : ByteArray := ⟨#[35, UInt8.ofNat (97 + i)]⟩
theorem V_get (V : Nat → Value) (i : Nat) (hi : i < 4) : [V 0, V 1, V 2, V 3][i]? = some (V i) := by
  have : i = 0 ∨ i = 1 ∨ i = 2 ∨ i = 3 := by omega
  rcases this with rfl | rfl | rfl | rfl <;> rfl
/-- i of the lists are full of their marks. -/
def curA (ps : Nat → List ByteArray) (i : Nat) : Nat → List ByteArray := fun j => if j < i then List.replicate (ps j).length (mkS j) else ps j
def grA (ps : Nat → List ByteArray) : Nat → List ByteArray := fun j => List.replicate ((ps j).length + 64) (mkS j)
theorem updT_id (f : Nat → List ByteArray) (i : Nat) (x : List ByteArray) (h : x = f i) : updT f i x = f := by
  funext k; unfold updT; split
  · rename_i e; rw [h, e]
  · rfl
theorem updT_two (f : Nat → List ByteArray) (i : Nat) (x y : List ByteArray) : updT (updT f i x) i y = updT f i y := by
  funext k; unfold updT; split <;> rfl
theorem fill_set (l : List ByteArray) (m : ByteArray) (k : Nat) (h : k < l.length) : (List.replicate k m ++ l.drop k).set k m = List.replicate (k + 1) m ++ l.drop (k + 1) := by
  rw [List.set_append_right _ _ (by simp), List.length_replicate, Nat.sub_self, List.drop_eq_getElem_cons h, List.set_cons_zero, List.replicate_succ']
  simp
theorem curA_next (ps : Nat → List ByteArray) (i : Nat) : updT (curA ps i) i (List.replicate (ps i).length (mkS i)) = curA ps (i + 1) := by
  funext k; unfold updT curA
  by_cases h : k = i
  · subst h; simp
  · rw [if_neg h]
    by_cases h2 : k < i
    · rw [if_pos h2, if_pos (by omega)]
    · rw [if_neg h2, if_neg (by omega)]
set_option maxRecDepth 100000 in
set_option maxHeartbeats 8000000 in
theorem apart_any (V : Nat → Value) (ps : Nat → List ByteArray) (S : List Nat) (gl cap : Nat) (w : World) (L : AL w S gl V) (hV : ∀ j, j < 4 → FullT w (V j) (ps j)) (hps : ∀ j, j < 4 → (ps j).length ≤ 16) (hl : At w gl 22 [V 0, V 1, V 2, V 3]) :
    Calls Tryd.prog 15 #[.slice (some ⟨gl, 0, none⟩) 4 cap] w fun e w' => e = .returned (.bool true) ∧ Fr S w w' := by
  have h0 : AP w w S gl V 0 (curA ps 0) (fun _ => .slice none 0 0) (grA ps) (.slice none 0 0) :=
    ⟨Fr.refl _ _, fun j hj => by simpa [curA] using hV j hj, hl, World.ownsRow_nil _ _ _ _, fun j hj => by omega⟩
  have HL := Lib.hid L
  clear hV hl L
  go_enter Tryd.func15, Tryd.ntmps15
  go_wp2_with fail
  go_loopw [3, 4, 5, 6, 7, 8] (fun v3 v4 _ _ _ _ wr => ∃ (i : Nat) (G : Nat → Value), i ≤ 4 ∧ v4 = .int .i64 i ∧ AP w wr S gl V i (curA ps i) G (grA ps) v3) (fun _ v _ _ _ _ _ => 4 - (intOf v).toNat)
  case atStart => exact ⟨0, _, by omega, rfl, h0⟩
  case round =>
    clear h0
    obtain ⟨i, G, hi, rfl, hA⟩ := hrel
    by_cases hl : i < 4
    · have l1 : (i : Int) < 4 := by omega
      have wB : IntKind.u8.wrap (97 + (i : Int)) = bt (UInt8.ofNat (97 + i)) := by
        rw [show 97 + (i : Int) = ((97 + i : Nat) : Int) by omega]; exact ofNat_wrap _ (by omega)
      obtain ⟨xi, hxi⟩ : ∃ xi, xi = UInt8.ofNat (97 + i) := ⟨_, rfl⟩
      rw [← hxi] at wB
      obtain ⟨mk, hmk⟩ : ∃ mk, mk = mkS i := ⟨_, rfl⟩
      have hcv : (convert 55 9 (.slice (some ⟨wr.heap.size, 0, none⟩) 2 2)).run Tryd.prog (wr.alloc (.cells #[.int .u8 35, .int .u8 (bt xi)] 5)) = .ok (.string mk) (wr.alloc (.cells #[.int .u8 35, .int .u8 (bt xi)] 5)) := by
        rw [hmk]; unfold mkS; rw [← hxi]
        exact run_strB (P := Tryd.prog) (d := 9) Tryd.underlying55 Tryd.underlying5 Tryd.underlying9 _ wr.heap.size 0 2 5 [35, xi] [] [] (At.alloc_new wr 5 #[.int .u8 35, .int .u8 (bt xi)]) rfl 2 rfl
      have hci : curA ps i i = ps i := by simp [curA]
      obtain ⟨ad, hVi, hpos⟩ := (hA.full i hl).len
      rw [hci] at hVi hpos
      obtain ⟨n, hn⟩ : ∃ n, n = (ps i).length := ⟨_, rfl⟩
      have hn16 := hps i hl
      rw [← hn] at hVi hpos hn16
      have hA := hA.keep (Fr.alloc [] wr (.cells #[.int .u8 35, .int .u8 (bt xi)] 5))
      have HM := Lib.hid (And.intro hmk (And.intro hn hVi))
      clear hxi hmk hn hVi hci hpos
      go_wp2_with fail
      generalize wr.alloc (.cells #[.int .u8 35, .int .u8 (bt xi)] 5) = W at hA ⊢
      go_loopw [6] (fun v6 wr => ∃ k : Nat, k ≤ n ∧ v6 = .int .i64 k ∧ AP w wr S gl V i (updT (curA ps i) i (List.replicate k mk ++ (ps i).drop k)) G (grA ps) u3) (fun v _ => n - (intOf v).toNat)
      case atStart => exact ⟨0, by omega, rfl, by rw [updT_id _ _ _ (by simp [curA])]; exact hA⟩
      case round =>
        clear hA hcv
        obtain ⟨k, hk, rfl, hA⟩ := hrel
        obtain ⟨hmk, hn, hVi⟩ := HM.out
        have hlen : (List.replicate k mk ++ (ps i).drop k).length = n := by simp; omega
        have qv : wr.cell? ⟨gl, i, none⟩ = some (.slice ad n n) := by rw [hA.at_.cell, V_get V i hl, hVi]
        have hfull := hA.full i hl
        rw [updT_same] at hfull
        obtain ⟨ad', hv', hpos⟩ := hfull.len
        rw [hlen] at hv' hpos
        have had : ad = ad' := by rw [hVi] at hv'; simpa using hv'
        subst had
        by_cases hkn : k < n
        · have l2 : (k : Int) < n := by omega
          obtain ⟨g, rfl, hg⟩ := hpos (by omega)
          obtain ⟨z, hz⟩ : ∃ z : ByteArray, wr.cell? ⟨g, k, none⟩ = some (.string z) := ⟨(List.replicate k mk ++ (ps i).drop k)[k]'(by omega), by rw [hg.cell, tcells, List.getElem?_map, List.getElem?_eq_getElem (by omega)]; rfl⟩
          have fz := hg.frozen k
          have hA2 := hA.store HL.out i g k mk hl (by rw [updT_same, hlen]; exact hVi) (by rw [updT_same, hlen]; exact hkn)
          rw [updT_same, updT_two, fill_set _ _ _ (by omega)] at hA2
          have HA2 := Lib.hid hA2
          clear hA2 hA hfull hv' hpos hlen hmk hn hVi hg
          go_wp2_with fail
          exact ⟨⟨k + 1, by omega, by simp, HA2.out⟩, by simp only [intOf]; omega⟩
        · obtain rfl : k = n := by omega
          rw [List.drop_of_length_le (by omega), List.append_nil] at hA
          clear hfull hv' hpos hlen
          have hcur : updT (curA ps i) i (List.replicate k mk) = curA ps (i + 1) := by rw [hmk, hn]; exact curA_next _ _
          rw [hcur] at hA
          have Z0 := At.alloc_new wr 72 (tcells (List.replicate 64 ⟨#[]⟩)).toArray
          have F0 := Fr.alloc [] wr (.cells (tcells (List.replicate 64 ⟨#[]⟩)).toArray 72)
          clear hmk hn hVi hcur
          go_wp2_with fail
          rw [show (#[Value.string { data := #[] }, Value.string { data := #[] }, Value.string { data := #[] }, Value.string { data := #[] }, Value.string { data := #[] }, Value.string { data := #[] }, Value.string { data := #[] }, Value.string { data := #[] }, Value.string { data := #[] }, Value.string { data := #[] }, Value.string { data := #[] }, Value.string { data := #[] }, Value.string { data := #[] }, Value.string { data := #[] }, Value.string { data := #[] }, Value.string { data := #[] }, Value.string { data := #[] }, Value.string { data := #[] }, Value.string { data := #[] }, Value.string { data := #[] }, Value.string { data := #[] }, Value.string { data := #[] }, Value.string { data := #[] }, Value.string { data := #[] }, Value.string { data := #[] }, Value.string { data := #[] }, Value.string { data := #[] }, Value.string { data := #[] }, Value.string { data := #[] }, Value.string { data := #[] }, Value.string { data := #[] }, Value.string { data := #[] }, Value.string { data := #[] }, Value.string { data := #[] }, Value.string { data := #[] }, Value.string { data := #[] }, Value.string { data := #[] }, Value.string { data := #[] }, Value.string { data := #[] }, Value.string { data := #[] }, Value.string { data := #[] }, Value.string { data := #[] }, Value.string { data := #[] }, Value.string { data := #[] }, Value.string { data := #[] }, Value.string { data := #[] }, Value.string { data := #[] }, Value.string { data := #[] }, Value.string { data := #[] }, Value.string { data := #[] }, Value.string { data := #[] }, Value.string { data := #[] }, Value.string { data := #[] }, Value.string { data := #[] }, Value.string { data := #[] }, Value.string { data := #[] }, Value.string { data := #[] }, Value.string { data := #[] }, Value.string { data := #[] }, Value.string { data := #[] }, Value.string { data := #[] }, Value.string { data := #[] }, Value.string { data := #[] }, Value.string { data := #[] }] : Array Value) = (tcells (List.replicate 64 ⟨#[]⟩)).toArray from rfl]
          obtain ⟨pm, hpm⟩ : ∃ pm, pm = wr.heap.size := ⟨_, rfl⟩
          generalize wr.alloc (.cells (tcells (List.replicate 64 ⟨#[]⟩)).toArray 72) = W1 at Z0 F0 ⊢
          rw [← hpm] at Z0 ⊢
          have HPM := Lib.hid hpm
          clear hpm qv
          generalize hW0 : wr = W0 at hA F0 HPM ⊢
          clear hW0
          go_loopw [8] (fun v8 wr => ∃ q : Nat, q ≤ 64 ∧ v8 = .int .i64 q ∧ At wr pm 72 (tcells (List.replicate q mk ++ (List.replicate 64 ⟨#[]⟩).drop q)) ∧ Fr [] W0 wr) (fun v _ => 64 - (intOf v).toNat)
          case atStart => exact ⟨0, by omega, rfl, Z0, F0⟩
          case round =>
            clear Z0 F0
            obtain ⟨q, hq, rfl, hM, hF⟩ := hrel
            by_cases hq2 : q < 64
            · have l3 : (q : Int) < 64 := by omega
              have hln : (List.replicate q mk ++ (List.replicate 64 (⟨#[]⟩ : ByteArray)).drop q).length = 64 := by simp; omega
              obtain ⟨z, hz⟩ : ∃ z : ByteArray, wr.cell? ⟨pm, q, none⟩ = some (.string z) := ⟨(List.replicate q mk ++ (List.replicate 64 (⟨#[]⟩ : ByteArray)).drop q)[q]'(by omega), by rw [hM.cell, tcells, List.getElem?_map, List.getElem?_eq_getElem (by omega)]; rfl⟩
              have fz := hM.frozen q
              have hM2 := hM.setCell q (.string mk)
              have e2 : (tcells (List.replicate q mk ++ (List.replicate 64 (⟨#[]⟩ : ByteArray)).drop q)).set q (.string mk) = tcells (List.replicate (q + 1) mk ++ (List.replicate 64 (⟨#[]⟩ : ByteArray)).drop (q + 1)) := by
                rw [← fill_set _ _ _ (by simp; omega)]; simp [tcells, List.map_set]
              rw [e2] at hM2
              have hF2 : Fr [] W0 (wr.setCell ⟨pm, q, none⟩ (.string mk)) := hF.new (S := [pm]) (Fr.setCell _ _ _ _ (.inl (by simp))) (by simp; have := HPM.out; omega)
              have HM2 := Lib.hid (And.intro hM2 hF2)
              clear hln e2 hM2 hF2 hM hF
              go_wp2_with fail
              exact ⟨⟨q + 1, by omega, by simp, HM2.out.1, HM2.out.2⟩, by simp only [intOf]; omega⟩
            · obtain rfl : q = 64 := by omega
              rw [List.drop_of_length_le (by simp), List.append_nil] at hM
              have hA := hA.keep hF
              obtain ⟨hmk, hn, hVi⟩ := HM.out
              have qv : wr.cell? ⟨gl, i, none⟩ = some (.slice ad k k) := by rw [hA.at_.cell, V_get V i hl, hVi]
              have hfull := hA.full i hl
              have hci : curA ps (i + 1) i = List.replicate k mk := by simp [curA, hn, hmk]
              rw [hci, hVi] at hfull
              obtain ⟨v', w', hrun, r1, g1⟩ := run_growT 22 (hfull.keep (Fr.drew [] wr) (by simp)) hM.drew (by simp) (by simp; omega)
              rw [List.replicate_append_replicate] at r1
              simp only [List.length_replicate] at r1 hrun
              rcases ownsRow_forms r1 with ⟨rfl, h00⟩ | ⟨gg, cg, rfl⟩
              · omega
              have hgr : List.replicate (k + 64) mk = grA ps i := by unfold grA; rw [hmk, hn]
              have f1 : Fr [] wr w' := (Fr.drew _ _).trans (Fr.ofGrown g1 (by intro x hx; cases hx))
              have hA1 := hA.keep f1
              have qv1 : w'.cell? ⟨gl, i, none⟩ = some (.slice ad k k) := by rw [hA1.at_.cell, V_get V i hl, hVi]
              have HH := Lib.hid (And.intro hmk (And.intro hn (And.intro hVi hgr)))
              have A7 := At.alloc_new w' 22 #[Value.slice (some ⟨gg, 0, none⟩) (k + 64) cg]
              have hi7 : (Tryd.prog.info? 22).map (fun i => (i.zero, i.size, i.bytes)) = some (some (.slice none 0 0), 1, 24) := by kernel_rfl
              obtain ⟨iI, hiI, hz0, hz1, hz2⟩ := info_parts hi7
              have hv1 : (Value.slice (some ⟨gg, 0, none⟩) (k + 64) cg).oneCell' = true := rfl
              clear hmk hn hVi hgr hfull hci hM
              go_wp2_with fail
              refine wp_region_until (fun w' => w'.cell? ⟨gl, i, none⟩ = some (.slice ad k k)) (fun _ => True) 1000 (by rfl) ?_
              have hT : True := trivial
              have s0 : wr.drew.cell? ⟨gl, i, none⟩ = some (.slice ad k k) := qv
              refine until_s0 0 (v := ?_) rfl (by kernel_rfl) (fun _ _ _ h => h) (Or.inl ⟨by rfl, ?_⟩) (by assumption) (fun h => by first | assumption | exact absurd (h : true = false) (by decide)) ?_
              rotate_left
              · intro w hSw; (try dsimp only at hSw); (try go_simp); (try with_reducible rfl)
              try simp only [Act.put, List.setIfInBounds_toArray, List.set_cons_zero, List.set_cons_succ]
              refine until_s0 1 (v := ?_) rfl (by kernel_rfl) (fun _ _ _ h => h) (Or.inl ⟨by rfl, ?_⟩) (by assumption) (fun h => by first | assumption | exact absurd (h : true = false) (by decide)) ?_
              rotate_left
              · intro w hSw; (try dsimp only at hSw); (try go_simp); (try with_reducible rfl)
              try simp only [Act.put, List.setIfInBounds_toArray, List.set_cons_zero, List.set_cons_succ]
              refine until_s0 2 (v := ?_) rfl (by kernel_rfl) (fun _ _ _ h => h) (Or.inl ⟨by rfl, ?_⟩) (by assumption) (fun h => by first | assumption | exact absurd (h : true = false) (by decide)) ?_
              rotate_left
              · intro w hSw; (try dsimp only at hSw); (try go_simp); (try with_reducible rfl)
              try simp only [Act.put, List.setIfInBounds_toArray, List.set_cons_zero, List.set_cons_succ]
              refine until_s0 3 (v := ?_) rfl (by kernel_rfl) (fun _ _ _ h => h) (Or.inl ⟨by rfl, ?_⟩) (by assumption) (fun h => by first | assumption | exact absurd (h : true = false) (by decide)) ?_
              rotate_left
              · intro w hSw; (try dsimp only at hSw); (try go_simp); (try with_reducible rfl)
              try simp only [Act.put, List.setIfInBounds_toArray, List.set_cons_zero, List.set_cons_succ]
              refine until_s0 4 (v := ?_) rfl (by kernel_rfl) (fun _ _ _ h => h) (Or.inl ⟨by rfl, ?_⟩) (by assumption) (fun h => by first | assumption | exact absurd (h : true = false) (by decide)) ?_
              rotate_left
              · intro w hSw; (try dsimp only at hSw); (try go_simp); (try with_reducible rfl)
              try simp only [Act.put, List.setIfInBounds_toArray, List.set_cons_zero, List.set_cons_succ]
              refine until_s0 5 (v := ?_) rfl (by kernel_rfl) (fun _ _ _ h => h) (Or.inl ⟨by rfl, ?_⟩) (by assumption) (fun h => by first | assumption | exact absurd (h : true = false) (by decide)) ?_
              rotate_left
              · intro w hSw; (try dsimp only at hSw); (try go_simp); (try with_reducible rfl)
              try simp only [Act.put, List.setIfInBounds_toArray, List.set_cons_zero, List.set_cons_succ]
              refine until_sole 6 rfl (by kernel_rfl) (by rfl) ?_
              intro K' hK
              refine wp_append_run _ _ _ rfl _ _ (.slice (some ⟨gg, 0, none⟩) (k + 64) cg) w' rfl rfl hrun ?_
              refine hK _ _ qv1 (fun _ => trivial) ?_
              clear hK s0
              skip
              refine until_sole 7 rfl (by kernel_rfl) (by rfl) ?_
              intro K' hK
              go_simp
              have s2 : (w'.alloc (.cells #[Value.slice (some ⟨gg, 0, none⟩) (k + 64) cg] 22)).cell? ⟨gl, i, none⟩ = some (.slice ad k k) := ((hA1.keep (Fr.alloc [] _ _)).at_.cell i).trans (by rw [V_get V i hl, HH.out.2.2.1])
              refine hK _ _ s2 (fun _ => trivial) ?_
              clear hK
              skip
              refine until_sole 8 rfl (by kernel_rfl) (by rfl) ?_
              intro K' hK
              refine wp_append_own _ _ _ _ rfl w.heap.size 22 iI (.slice none 0 0) 1 24 Tryd.underlying31 hiI hz0 hz1 hz2 rfl (by decide) _ i _ rfl (World.ownsRow.alloc hA1.row _) ⟨w'.heap.size, 0, none⟩ 1 1 [Value.slice (some ⟨gg, 0, none⟩) (k + 64) cg] rfl rfl ?_ ?_ ?_ ?_ ?_ ?_
              case refine_1 => intro j u hj; rw [addr_add', Nat.zero_add]; exact (A7.cell j).trans hj
              case refine_2 => intro u hu; simp at hu; subst hu; exact hv1
              case refine_3 => simp [maxLen]; omega
              case refine_4 => omega
              case refine_5 => have := hA1.fr.size; simp; omega
              intro v3' w3 o3 g3 _
              have hA3 := AP.grow HL.out hA1 (Fr.alloc [] w' (.cells #[Value.slice (some ⟨gg, 0, none⟩) (k + 64) cg] 22)) (b := wr.heap.size) (q := grA ps i) hA.fr.size (by
                have e := HH.out.2.2.2
                have e2 : k + 64 = (grA ps i).length := by rw [← e]; simp
                have r2 : w'.ownsRow wr.heap.size 9 1 (.slice (some ⟨gg, 0, none⟩) (k + 64) cg) (grA ps i).length (tcells (grA ps i)) := by rw [← e2, ← e]; exact r1
                exact World.ownsRow.alloc r2 _) o3 g3
              have e4 : updT (grA ps) i (grA ps i) = grA ps := updT_id _ _ _ rfl
              rw [e4] at hA3
              have s3 : w3.cell? ⟨gl, i, none⟩ = some (.slice ad k k) := by rw [hA3.at_.cell, V_get V i hl, HH.out.2.2.1]
              refine hK _ _ s3 (fun _ => trivial) ?_
              clear hK s2
              refine until_s0 9 (v := ?_) rfl (by kernel_rfl) (fun _ _ _ h => h) (Or.inl ⟨by rfl, ?_⟩) (by assumption) (fun h => by first | assumption | exact absurd (h : true = false) (by decide)) ?_
              rotate_left
              · intro w hSw; (try dsimp only at hSw); (try go_simp); (try with_reducible rfl)
              try simp only [Act.put, List.setIfInBounds_toArray, List.set_cons_zero, List.set_cons_succ]
              refine until_done (by kernel_rfl) ?_ _
              go_wp2_with fail
              exact ⟨⟨i + 1, _, by omega, by simp, hA3⟩, by simp only [intOf]; omega⟩
    · obtain rfl : i = 4 := by omega
      have hn4 : ∀ j, j < 4 → ∃ ad, V j = .slice ad (ps j).length (ps j).length := by
        intro j hj
        obtain ⟨ad, hv, _⟩ := (hA.full j hj).len
        refine ⟨ad, ?_⟩
        have : (curA ps 4 j).length = (ps j).length := by unfold curA; rw [if_pos hj]; simp
        rw [this] at hv; exact hv
      rcases ownsRow_forms hA.row with ⟨rfl, h00⟩ | ⟨g3, c3, rfl⟩
      · omega
      go_wp2_with fail
      clear hl hi
      go_loopw [9, 10, 11] (fun v9 _ _ wr => ∃ i : Nat, i ≤ 4 ∧ v9 = .int .i64 i ∧ AP w wr S gl V 4 (curA ps 4) G (grA ps) (.slice (some ⟨g3, 0, none⟩) 4 c3)) (fun v _ _ _ => 4 - (intOf v).toNat)
      case atStart => exact ⟨0, by omega, rfl, hA⟩
      case round =>
        clear hA
        obtain ⟨i, hi, rfl, hA⟩ := hrel
        by_cases hl : i < 4
        · have l1 : (i : Int) < 4 := by omega
          have wB : IntKind.u8.wrap (97 + (i : Int)) = bt (UInt8.ofNat (97 + i)) := by
            rw [show 97 + (i : Int) = ((97 + i : Nat) : Int) by omega]; exact ofNat_wrap _ (by omega)
          obtain ⟨xi, hxi⟩ : ∃ xi, xi = UInt8.ofNat (97 + i) := ⟨_, rfl⟩
          rw [← hxi] at wB
          obtain ⟨mk, hmk⟩ : ∃ mk, mk = mkS i := ⟨_, rfl⟩
          have hcv : (convert 55 9 (.slice (some ⟨wr.heap.size, 0, none⟩) 2 2)).run Tryd.prog (wr.alloc (.cells #[.int .u8 35, .int .u8 (bt xi)] 5)) = .ok (.string mk) (wr.alloc (.cells #[.int .u8 35, .int .u8 (bt xi)] 5)) := by
            rw [hmk]; unfold mkS; rw [← hxi]
            exact run_strB (P := Tryd.prog) (d := 9) Tryd.underlying55 Tryd.underlying5 Tryd.underlying9 _ wr.heap.size 0 2 5 [35, xi] [] [] (At.alloc_new wr 5 #[.int .u8 35, .int .u8 (bt xi)]) rfl 2 rfl
          obtain ⟨ad, hVi⟩ := hn4 i hl
          have hpos := (hA.full i hl).len
          have hci : curA ps 4 i = List.replicate (ps i).length (mkS i) := by simp [curA, hl]
          have hrow := hA.rows i hl
          have hgi : grA ps i = List.replicate ((ps i).length + 64) (mkS i) := rfl
          rw [hgi, ← hmk, List.length_replicate] at hrow
          rw [hci, ← hmk, List.length_replicate] at hpos
          have hn16 := hps i hl
          obtain ⟨n, hn⟩ : ∃ n, n = (ps i).length := ⟨_, rfl⟩
          rw [← hn] at hrow hpos hVi hn16
          obtain ⟨ad', hV', hpos⟩ := hpos
          have had : ad = ad' := by rw [hVi] at hV'; simpa using hV'
          subst had
          obtain ⟨gg, cg, hGi⟩ : ∃ gg cg, G i = .slice (some ⟨gg, 0, none⟩) (n + 64) cg := by
            rcases ownsRow_forms hrow with ⟨_, h00⟩ | ⟨gg, cg, h⟩
            · omega
            · exact ⟨gg, cg, h⟩
          have HM := Lib.hid (And.intro hmk (And.intro hn (And.intro hVi (And.intro hGi hci))))
          have hA := hA.keep (Fr.alloc [] wr (.cells #[.int .u8 35, .int .u8 (bt xi)] 5))
          clear hxi hmk hn hVi hci hpos hV' hgi hrow hGi
          go_wp2_with fail
          generalize wr.alloc (.cells #[.int .u8 35, .int .u8 (bt xi)] 5) = W at hA ⊢
          go_loopw [11] (fun v11 wr => ∃ k : Nat, k ≤ n + 64 ∧ v11 = .int .i64 k ∧ AP w wr S gl V 4 (curA ps 4) G (grA ps) (.slice (some ⟨g3, 0, none⟩) 4 c3)) (fun v _ => n + 64 - (intOf v).toNat)
          case atStart => exact ⟨0, by omega, rfl, hA⟩
          case round =>
            clear hA hcv
            obtain ⟨k, hk, rfl, hA⟩ := hrel
            obtain ⟨hmk, hn, hVi, hGi, hci⟩ := HM.out
            have qg : wr.cell? ⟨g3, i, none⟩ = some (.slice (some ⟨gg, 0, none⟩) (n + 64) cg) := by
              have := hA.row.cells rfl i (G i) (by simp [hl])
              rw [addr_add', Nat.zero_add] at this
              rw [this, hGi]
            by_cases hkn : k < n + 64
            · have l2 : (k : Int) < n + 64 := by omega
              have l3 : (k : Int) < ((n + 64 : Nat) : Int) := by omega
              have qk : wr.cell? ⟨gg, k, none⟩ = some (.string mk) := by
                have hrow := hA.rows i hl
                rw [hGi] at hrow
                have := hrow.cells rfl k (.string mk) (by simp [tcells, grA, ← hmk, ← hn, hkn])
                rw [addr_add', Nat.zero_add] at this
                exact this
              have ql : wr.cell? ⟨gl, i, none⟩ = some (.slice ad n n) := by rw [hA.at_.cell, V_get V i hl, hVi]
              by_cases hk2 : k < n
              · have l4 : (k : Int) < n := by omega
                obtain ⟨g, rfl, qc⟩ : ∃ g, ad = some ⟨g, 0, none⟩ ∧ wr.cell? ⟨g, k, none⟩ = some (.string mk) := by
                  obtain ⟨ad', hV', hpos⟩ := (hA.full i hl).len
                  rw [hci, ← hmk, ← hn, List.length_replicate] at hV' hpos
                  have had : ad = ad' := by rw [hVi] at hV'; simpa using hV'
                  subst had
                  obtain ⟨g, e, hg⟩ := hpos (by omega)
                  exact ⟨g, e, by rw [hg.cell]; simp [tcells, hk2]⟩
                have HA := Lib.hid hA
                clear hA hmk hn hVi hGi hci
                go_wp2_with fail
                exact ⟨⟨k + 1, by omega, by simp, HA.out⟩, by simp only [intOf]; omega⟩
              · have l4 : ¬ (k : Int) < n := by omega
                have HA := Lib.hid hA
                clear hA hmk hn hVi hGi hci
                go_wp2_with fail
                exact ⟨⟨k + 1, by omega, by simp, HA.out⟩, by simp only [intOf]; omega⟩
            · obtain rfl : k = n + 64 := by omega
              have HA := Lib.hid hA
              clear hA hmk hn hVi hGi hci
              go_wp2_with fail
              exact ⟨⟨i + 1, by omega, by simp, HA.out⟩, by simp only [intOf]; omega⟩
        · obtain rfl : i = 4 := by omega
          go_wp2_with fail
          go_ret
          exact ⟨rfl, hA.fr⟩
end Go.Proofs.YtffhfmaphjjffaaDoor
