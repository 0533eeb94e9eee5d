/- Picked out of a list in an order that numbers say: the law's own function walked. -/
import Derived.Test.YtffhfmaphjjffaaDoorJnMixP
import Derived.Test.YtffhfmaphjjffaaDoorJnList
import Derived.Test.YtffhfmaphjjffaaDoorShrLawA
import Derived.Test.YtffhfmaphjjffaaDoorUntil
namespace Go.Proofs.YtffhfmaphjjffaaDoor
open Go.RowKit Go.Lib Go.Joins Base
set_option linter.unusedVariables false
set_option linter.unusedSimpArgs false

/-- Whole numbers in memory. -/
def Ints (w : World) (ad : Option Addr) (ns : List Int) : Prop := ∀ j x, ns[j]? = some x → ∃ g o, ad = some ⟨g, o, none⟩ ∧ w.cell? ⟨g, o + j, none⟩ = some (.int .i64 x) ∧ -9223372036854775808 ≤ x ∧ x ≤ 9223372036854775807
theorem Ints.keep {w w' : World} {ad : Option Addr} {ns : List Int} (h : Ints w ad ns) (f : Fr [] w w') : Ints w' ad ns := by
  intro j x hj
  obtain ⟨g, o, e, hc, hr⟩ := h j x hj
  refine ⟨g, o, e, ?_, hr⟩
  rw [← hc]
  have hb : g < w.heap.size := by
    rcases Nat.lt_or_ge g w.heap.size with h' | h'
    · exact h'
    · exfalso
      simp [World.cell?, Array.getElem?_eq_none h'] at hc
  exact World.cell?_of_block (f.block g hb (by simp))
/-- Rows of unlike heads lie in unlike blocks. -/
theorem own_apart_head {w : World} {b b' n n' : Nat} {e e' : TypeId} {v v' : Value} {xs ys : List Value} (h : w.ownsRow b e 1 v n xs) (h' : w.ownsRow b' e' 1 v' n' ys) (x y : Value) (hx : xs[0]? = some x) (hy : ys[0]? = some y) (hne : x ≠ y) : ∀ g, v.ownBlock = some g → v'.ownBlock ≠ some g := by
  intro g hg hg'
  have h1 := World.ownsRow.cells h hg 0 x hx
  have h2 := World.ownsRow.cells h' hg' 0 y hy
  rw [h1] at h2
  exact hne (Option.some.inj h2)
theorem erase_next_else (L : List ByteArray) (a k : Nat) (s : ByteArray) (hk : L[k]? = some s) (hne : k ≠ a) : (L.take (k + 1)).eraseIdx a = (L.take k).eraseIdx a ++ [s] := by
  have hl := (List.getElem?_eq_some_iff.1 hk).1
  rw [List.take_add_one, hk]
  show ((L.take k) ++ [s]).eraseIdx a = _
  rcases Nat.lt_or_ge a k with h | h
  · rw [List.eraseIdx_append_of_lt_length (by simp; omega)]
  · rw [List.eraseIdx_of_length_le (by simp; omega), List.eraseIdx_of_length_le (by simp; omega)]
theorem erase_next_own (L : List ByteArray) (a : Nat) (s : ByteArray) (hk : L[a]? = some s) : (L.take (a + 1)).eraseIdx a = (L.take a).eraseIdx a := by
  have hl := (List.getElem?_eq_some_iff.1 hk).1
  rw [List.take_add_one, hk]
  show ((L.take a) ++ [s]).eraseIdx a = _
  have hta : (L.take a).length = a := by simp; omega
  rw [List.eraseIdx_append_of_length_le (by omega), List.eraseIdx_of_length_le (l := L.take a) (by omega), hta]
  simp
theorem perm_step (O L ps : List ByteArray) (a : Nat) (s : ByteArray) (hs : L[a]? = some s) (hp : (O ++ L).Perm ps) : ((O ++ [s]) ++ L.eraseIdx a).Perm ps := by
  obtain ⟨hl, rfl⟩ := List.getElem?_eq_some_iff.1 hs
  refine List.Perm.trans ?_ hp
  rw [List.append_assoc]
  refine List.Perm.append_left O ?_
  have e : L = L.take a ++ L[a] :: L.drop (a + 1) := by rw [← List.drop_eq_getElem_cons hl, List.take_append_drop]
  rw [List.eraseIdx_eq_take_drop_succ]
  conv => rhs; rw [e]
  exact (List.perm_middle (l₁ := L.take a) (l₂ := L.drop (a + 1)) (a := L[a])).symm
/-- What stands between the rounds. -/
structure PK (w wr : World) (ps : List ByteArray) (i : Nat) (O L : List ByteArray) (v7 v8 : Value) : Prop where
  hp : (O ++ L).Perm ps
  hO : O.length = i
  hL : L.length + i = ps.length
  r7 : wr.ownsRow w.heap.size 9 1 v7 L.length (tcells L)
  r8 : wr.ownsRow w.heap.size 9 1 v8 i (tcells O)
  h0 : O = [] → v8 = .slice none 0 0
  hB : Below w.heap.size w wr
theorem PK.apart {w wr : World} {ps : List ByteArray} {i : Nat} {O L : List ByteArray} {v7 v8 : Value} (h : PK w wr ps i O L v7 v8) (hn : ps.Nodup) (hl : 0 < L.length) : ∀ g, v7.ownBlock = some g → g ∉ v8.ownBlock.toList := by
  intro g hg hx
  cases hO : O with
  | nil => rw [h.h0 hO] at hx; simp [Value.ownBlock] at hx
  | cons o O' =>
    have hx' : v8.ownBlock = some g := by simpa using hx
    have hnd : (O ++ L).Nodup := (h.hp.nodup_iff).2 hn
    refine own_apart_head h.r7 h.r8 (.string L[0]) (.string o) (by simp [tcells, hl]) (by simp [tcells, hO]) ?_ g hg hx'
    intro he
    injection he with he
    rw [List.nodup_append] at hnd
    exact hnd.2.2 o (by simp [hO]) L[0] (List.getElem_mem hl) he.symm
set_option maxRecDepth 100000 in
set_option maxHeartbeats 8000000 in
theorem picked_any (ps : List ByteArray) (hnd : ps.Nodup) (ad : Option Addr) (cap : Nat) (os : List Int) (ado : Option Addr) (capo : Nat) (hos : os.length ≤ 9223372036854775807) (n : Nat) (hn : n ≤ ps.length) (hb : ps.length ≤ 1048576) (w : World) (hT : Texts w ad ps) (hO : Ints w ado os) :
    Calls Tryd.prog 28 #[.slice ad ps.length cap, .slice ado os.length capo, .int .i64 n] w fun e w' => ∃ v out, e = .returned v ∧ w'.ownsRow w.heap.size 9 1 v n (tcells out) ∧ out.length = n ∧ Pick ps out ∧ Fr [] w w' := by
  have hi5 : (Tryd.prog.info? 9).map (fun i => (i.zero, i.size, i.bytes)) = some (some (.string ⟨#[]⟩), 1, 16) := by kernel_rfl
  obtain ⟨iT, hiT, zT0, zT1, zT2⟩ := info_parts hi5
  have cT := texts26_any ps ad cap (by omega) w hT
  have cC := fun (x high : Int) (h1 : -9223372036854775808 ≤ x ∧ x ≤ 9223372036854775807) (h2 : 0 ≤ high) (h3 : high ≤ 1048576) w => clipped_any x 0 high h1 (by omega) h2 h3 w
  have HND := Lib.hid hnd
  clear hnd
  go_enter Tryd.func28, Tryd.ntmps28
  go_wp2_with (first
    | (go_at_call 21; refine cT.mono ?_; clear cT; rintro e w1 ⟨v1, rfl, hV, f1⟩)
    | fail)
  have pk : PK w w1 ps 0 [] ps v1 (.slice none 0 0) := ⟨List.Perm.refl _, rfl, by omega, hV, World.ownsRow_nil _ _ _ _, fun _ => rfl, f1.below⟩
  clear hV f1
  go_loopw [7, 8, 9, 10, 11, 12] (fun v7 v8 v9 _ _ _ wr => ∃ (i : Nat) (O L : List ByteArray), i ≤ n ∧ v9 = .int .i64 i ∧ PK w wr ps i O L v7 v8) (fun _ _ v _ _ _ _ => n - (intOf v).toNat)
  case atStart => exact ⟨0, [], ps, by omega, rfl, pk⟩
  case round =>
    clear pk
    obtain ⟨i, O, L, hi, rfl, pk⟩ := hrel
    obtain ⟨adL, cL, rfl, h7⟩ := own_val pk.r7
    obtain ⟨adO, cO, rfl, h8⟩ := own_val pk.r8
    clear h7 h8
    have HOl := Lib.hid pk.hO
    have hLl := pk.hL
    by_cases hl : i < n
    · have l1 : (i : Int) < n := by omega
      have l2 : (0 : Int) < L.length := by omega
      have l3 : 0 < L.length := by omega
      obtain ⟨gl, cL', hvL⟩ := ownsRow_form pk.r7 l3
      obtain ⟨rfl, rfl⟩ : adL = some ⟨gl, 0, none⟩ ∧ cL = cL' := by simpa using hvL
      by_cases hm : i < os.length
      case' pos =>
        have m1 : (i : Int) < os.length := by omega
        obtain ⟨x, hx⟩ : ∃ x, os[i]? = some x := ⟨_, List.getElem?_eq_getElem hm⟩
        obtain ⟨g, o, rfl, hc, hxr⟩ := (hO.keep (Fr.ofBelow pk.hB)) i x hx
        have c1 := fun w => cC x ((L.length : Int) - 1) hxr (by omega) (by omega) w
        clear hx cC hvL
        go_upto_region 9 with (first
          | (go_at_call 27; refine (c1 _).mono ?_; clear c1; rintro e w2 ⟨r, hr1, hr2, rfl, f2⟩; obtain ⟨a, rfl⟩ : ∃ a : Nat, r = a := ⟨r.toNat, (by omega)⟩)
          | fail)
        have ha : a < L.length := by omega
        have ha1 : (a : Int) < L.length := by omega
        have pk : PK w w2 ps i O L (.slice (some ⟨gl, 0, none⟩) L.length cL) (.slice adO i cO) := ⟨pk.hp, pk.hO, pk.hL, own_fr pk.r7 f2 (by simp), own_fr pk.r8 f2 (by simp), pk.h0, (Fr.trans (Fr.ofBelow pk.hB) f2).below⟩
        obtain ⟨s, hs⟩ : ∃ s, L[a]? = some s := ⟨_, List.getElem?_eq_getElem ha⟩
        have hc : w2.cell? ⟨gl, a, none⟩ = some (.string s) := by
          have := World.ownsRow.cells pk.r7 rfl a (.string s) (by simp [tcells, hs])
          rwa [addr_add', Nat.zero_add] at this
        have bne : ∀ k : Nat, k ≠ a → ((k : Int) != a) = true := fun k h => by simp; omega
        have beq_ : ((a : Int) != a) = false := by simp
        clear f2 hxr hr1 hr2 m1
      case' neg =>
        have m1 : ¬ (i : Int) < os.length := by omega
        clear hvL
        go_upto_region 9 with fail
        obtain ⟨a, ha0⟩ : ∃ a : Nat, a = 0 := ⟨0, rfl⟩
        have ha : a < L.length := by omega
        have ha1 : (0 : Int) < L.length := by omega
        obtain ⟨s, hs⟩ : ∃ s, L[a]? = some s := ⟨_, List.getElem?_eq_getElem ha⟩
        have hc : wr.cell? ⟨gl, 0, none⟩ = some (.string s) := by
          have := World.ownsRow.cells pk.r7 rfl a (.string s) (by simp [tcells, hs])
          rwa [addr_add', Nat.zero_add, ha0] at this
        have bne : ∀ k : Nat, k ≠ a → ((k : Int) != 0) = true := fun k h => by simp; omega
        have beq_ : ((a : Int) != 0) = false := by simp [ha0]
        have HA0 := Lib.hid ha0
        clear m1 cC ha0
      case' pos => generalize w2 = W at pk hc ⊢
      case' neg => generalize wr = W at pk hc ⊢
      all_goals
        have hE := tcells_snoc (O ++ [s]) O.length s (by simp)
        rw [List.take_of_length_le (by simp), List.take_left] at hE
        have hfr := pk.apart HND.out l3 gl rfl
        have hps := perm_step O L ps a s hs pk.hp
        have A6 := At.alloc_new W 9 #[Value.string s]
        have HE := Lib.hid (And.intro hE (And.intro hps (And.intro hs (And.intro HOl.out (And.intro hLl ha)))))
        have BN := Lib.hid (And.intro bne beq_)
        clear hE hps hs bne beq_ ha
        go_upto_region 10 with (first
          | (at_builtin; refine wpList_append_own _ rfl _ _ _ rfl w.heap.size 9 iT (.string ⟨#[]⟩) 1 16 Tryd.underlying22 hiT zT0 zT1 zT2 rfl (by decide) _ i _ rfl (World.ownsRow.alloc pk.r8 _) ⟨W.heap.size, 0, none⟩ 1 1 [.string s] rfl rfl (by intro j u hj; rw [addr_add', Nat.zero_add]; exact (A6.cell j).trans hj) (by intro u hu; simp at hu; subst hu; rfl) (by simp [maxLen]; omega) (by omega) (by have := pk.hB.size; simp; omega) ?_; intro v7 w7 o7 gr7 _)
          | fail)
        have f7 : Fr (Value.slice adO i cO).ownBlock.toList W w7 := (Fr.alloc _ W _).trans (Fr.ofGrown gr7 (by intro k hk; have hk : (Value.slice adO i cO).ownBlock = some k := hk; rw [hk]; simp))
        have r7 := own_fr pk.r7 f7 (fun g hg => by cases hg; exact hfr)
        have hszW := pk.hB.size
        have hB7 : Below w.heap.size w w7 := (pk.hB.alloc (by omega) _).grown gr7 (by simp; omega) (fun k hk => (pk.r8.lt k hk).1)
        have hsz7 := hB7.size
        rw [← HE.out.1] at o7
        have a11 : w7.ownsRow w7.heap.size 9 1 (.slice none 0 0) ((L.take 0).eraseIdx a).length (tcells ((L.take 0).eraseIdx a)) := by
          simpa [tcells] using World.ownsRow_nil w7 w7.heap.size 9 1
        clear pk f7 gr7 hfr A6 hc
        go_wp2_with fail
        go_loopw [11, 12] (fun v11 v12 wr => ∃ k : Nat, k ≤ L.length ∧ v12 = .int .i64 k ∧ wr.ownsRow w7.heap.size 9 1 v11 ((L.take k).eraseIdx a).length (tcells ((L.take k).eraseIdx a)) ∧ Fr [] w7 wr) (fun _ v _ => L.length - (intOf v).toNat)
        case atStart => exact ⟨0, by omega, rfl, a11, Fr.refl _ _⟩
        case round =>
          clear a11
          obtain ⟨k, hk, rfl, r11, hF⟩ := hrel
          by_cases hk2 : k < L.length
          · have k1 : (k : Int) < L.length := by omega
            obtain ⟨s', hs'⟩ : ∃ s', L[k]? = some s' := ⟨_, List.getElem?_eq_getElem hk2⟩
            by_cases hka : k = a
            · have hE2 := erase_next_own L a s' (by rw [← hka]; exact hs')
              have HE2 := Lib.hid hE2
              clear hE2 hs'
              subst hka
              have b1 := BN.out.2
              go_wp2_with fail
              exact ⟨⟨k + 1, by omega, by simp, by rw [HE2.out]; exact r11, hF⟩, by simp only [intOf]; omega⟩
            · have b1 := BN.out.1 k hka
              have hE2 := erase_next_else L a k s' hs' hka
              have hck : wr.cell? ⟨gl, k, none⟩ = some (.string s') := by
                have := World.ownsRow.cells (own_fr r7 hF (by simp)) rfl k (.string s') (by simp [tcells, hs'])
                rwa [addr_add', Nat.zero_add] at this
              have A6 := At.alloc_new wr 9 #[Value.string s']
              have hbl : ((L.take k).eraseIdx a).length ≤ k := by
                have := List.length_eraseIdx_le (l := L.take k) (i := a)
                simp at this ⊢; omega
              obtain ⟨q, hq⟩ : ∃ q, q = ((L.take k).eraseIdx a).length := ⟨_, rfl⟩
              rw [← hq] at r11 hbl
              have hszr := hF.size
              have HE2 := Lib.hid (And.intro hE2 hq)
              clear hE2 hs' hq hka
              go_wp2_with (first
                | (at_builtin; refine wpList_append_own _ rfl _ _ _ rfl w7.heap.size 9 iT (.string ⟨#[]⟩) 1 16 Tryd.underlying22 hiT zT0 zT1 zT2 rfl (by decide) _ q _ rfl (World.ownsRow.alloc r11 _) ⟨wr.heap.size, 0, none⟩ 1 1 [.string s'] rfl rfl (by intro j u hj; rw [addr_add', Nat.zero_add]; exact (A6.cell j).trans hj) (by intro u hu; simp at hu; subst hu; rfl) (by simp [maxLen]; omega) (by omega) (by simp; omega) ?_; intro v8 w8 o8 gr8 _)
                | fail)
              refine ⟨⟨k + 1, by omega, by simp, ?_, ?_⟩, by simp only [intOf]; omega⟩
              · have hlq : ((L.take (k + 1)).eraseIdx a).length = q + 1 := by rw [HE2.out.1, HE2.out.2]; simp
                rw [hlq, HE2.out.1, tcells_app]; exact o8
              · exact Fr.ofBelow ((hF.below.alloc (by omega) _).grown gr8 (by simp; omega) (fun k hk => (r11.lt k hk).1))
          · obtain rfl : k = L.length := by omega
            rw [List.take_length] at r11
            obtain ⟨hE, hps, hs, hOl, hLl, ha⟩ := HE.out
            have hel : (L.eraseIdx a).length = L.length - 1 := by rw [List.length_eraseIdx, if_pos ha]
            have HEL := Lib.hid hel
            clear hE hs hel
            go_wp2_with fail
            exact ⟨⟨i + 1, O ++ [s], L.eraseIdx a, by omega, by simp, ⟨hps, by simp; omega, by rw [HEL.out]; omega, own_base r11 (by omega), own_fr o7 hF (by simp), fun h => by simp at h, (Fr.trans (Fr.ofBelow hB7) hF).below⟩⟩, by simp only [intOf]; omega⟩
    · obtain rfl : i = n := by omega
      go_wp2_with fail
      go_ret
      exact ⟨_, O, rfl, pk.r8, pk.hO, ⟨L, pk.hp⟩, Fr.ofBelow pk.hB⟩
end Go.Proofs.YtffhfmaphjjffaaDoor
