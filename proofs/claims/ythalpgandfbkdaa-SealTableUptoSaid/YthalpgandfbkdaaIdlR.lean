/- A sealer of rows; what was sealed is opened, whatever was sealed later. -/
import Derived.Test.YthalpgandfbkdaaIdlQ
namespace Go.Proofs.Ythalpgandfbkdaa
open Go.RowKit Go.Lib Go.Joins Base Go.Maps
set_option linter.unusedVariables false
set_option linter.unusedSimpArgs false

/-- Rows that a sealer takes. -/
def Rowed (rs : List Rw) : Prop := ∀ r ∈ rs, (1 ≤ r.1 ∧ r.1 ≤ 3) ∧ r.2.1.size ≤ 64 ∧ r.2.2.2.size + 40 = r.2.2.1.size ∧ r.2.2.1.size ≤ 1048576
set_option maxRecDepth 100000 in
set_option maxHeartbeats 4000000 in
theorem newList_any (rs : List Rw) (F0 : ByteArray → Int) (hG0 : Good rs F0) (hn : rs.length ≤ 2932031007403) (hf : Rowed rs) (g : Nat) (w : World) (hR : RowsAt w g rs) (hg : g < w.heap.size) :
    Calls Try.prog 6 #[.slice (some ⟨g, 0, none⟩) rs.length rs.length] w fun e w' => ∃ p b v F, e = .returned (.tuple #[.pointer (some ⟨p, 0, none⟩), .int .i64 0]) ∧ p ≠ b ∧ w.heap.size ≤ p ∧ w.heap.size ≤ b ∧ Idl w' w.heap.size p b v rs F ∧ Good rs F ∧ (∀ x ∈ v.ownBlock.toList, w.heap.size ≤ x) ∧ Fr [] w w' := by
  have hmm := @run_makeMap Try.prog
  obtain ⟨b, hb⟩ : ∃ b, b = w.heap.size := ⟨_, rfl⟩
  obtain ⟨p, hp⟩ : ∃ p, p = w.heap.size + 1 := ⟨_, rfl⟩
  have A := At.alloc_new (w.alloc (.map #[] 0)) 62 #[Value.slice none 0 0, .map (some w.heap.size)]
  have e : (w.alloc (.map #[] 0)).heap.size = p := by rw [hp]; simp
  rw [e, ← hb] at A
  have I0 : Idl ((w.alloc (.map #[] 0)).alloc (.cells #[Value.slice none 0 0, .map (some b)] 62)) w.heap.size p b (.slice none 0 0) [] (fun _ => 0) :=
    ⟨A, ⟨rfl, .inl ⟨rfl, rfl⟩⟩, Tab.made (by rw [hb]; exact (World.ownsMap_made _ _ _ _).alloc _)⟩
  have F0' : Fr [] w ((w.alloc (.map #[] 0)).alloc (.cells #[Value.slice none 0 0, .map (some b)] 62)) := (Fr.alloc _ _ _).trans (Fr.alloc _ _ _)
  have hpb : p ≠ b ∧ w.heap.size ≤ p ∧ w.heap.size ≤ b := by omega
  have HP := Lib.hid hpb
  have HG := Lib.hid (And.intro hG0 hf)
  have R0 := hR.fr F0' hg (by simp)
  have g0 : Good (rs.take 0) (fun _ => 0) := ⟨fun t => .inl rfl, fun j r h => by simp at h⟩
  have HGL := Lib.hid hg
  clear A hG0 hf hpb hR hg
  go_enter Try.func6, Try.ntmps6
  go_wp2_with fail
  try change Code.wp _ _ _ _ ((w.alloc (.map #[] 0)).alloc (.cells #[Value.slice none 0 0, .map (some w.heap.size)] 62))
  rw [← hp, ← hb]
  generalize (w.alloc (.map #[] 0)).alloc (.cells #[Value.slice none 0 0, .map (some b)] 62) = W at I0 F0' R0 ⊢
  clear hp hb e
  go_loopw [14] (fun v14 wr => ∃ (i : Nat) (F : ByteArray → Int) (v : Value), i ≤ rs.length ∧ v14 = .int .i64 i ∧ Idl wr w.heap.size p b v (rs.take i) F ∧ Good (rs.take i) F ∧ RowsAt wr g rs ∧ Fr [] w wr) (fun v _ => rs.length - (RowKit.intOf v).toNat)
  case atStart => exact ⟨0, fun _ => 0, _, by omega, rfl, I0, g0, R0, F0'⟩
  case round =>
    clear I0 g0 R0 F0'
    obtain ⟨i, F, v, hi, rfl, hI, hG, hR, hF⟩ := hrel
    have zg : g < wr.heap.size := Nat.lt_of_lt_of_le HGL.out hF.size
    by_cases hl : i < rs.length
    · have l1 : (i : Int) < rs.length := by omega
      have w2 : IntKind.i64.wrap ((i : Int) + 1) = ((i + 1 : Nat) : Int) := by rw [IntWalk.i64_in _ (by omega)]; omega
      obtain ⟨r, hr⟩ : ∃ r, rs[i]? = some r := ⟨_, List.getElem?_eq_getElem hl⟩
      obtain ⟨q0, q1, q2, q3⟩ := hR.row i r hr
      obtain ⟨hk, hx, htc, hc⟩ := HG.out.2 r (List.mem_iff_getElem?.2 ⟨i, hr⟩)
      have hfr := fresh_take rs F0 F HG.out.1 i r hr hG
      have htk : rs.take (i + 1) = rs.take i ++ [r] := by rw [List.take_add_one, hr]; rfl
      have hG2 := good_push (rs.take i) r F hG hfr
      have hrl : (rs.take i).length = i := by rw [List.length_take]; omega
      have hT : tagX r.2.2.1 = tagB r.2.2.1 := tagX_big _ (by omega)
      rw [hT] at hfr hG2
      obtain ⟨r1, r2, r3, r4⟩ := r
      simp only at q0 q1 q2 q3 hk hx htc hc hfr
      have c1 := fun w' h1 h2 => seal_ok r1 hk w.heap.size p b v (rs.take i) F r2 r4 r3 hx htc hc (by rw [hrl]; omega) hfr w' h1 h2
      have A6 := fun w' => At.alloc_new w' 64 #[.int .i64 r1, .string r2, .string r3, .string r4]
      have fA := Fr.alloc [] wr (.cells #[.int .i64 r1, .string r2, .string r3, .string r4] 64)
      have IA := hI.fr fA (by simp) (by simp) (by simp)
      have RA := hR.fr fA zg (by simp)
      have hsz := (hF.trans fA).size
      have HH := Lib.hid (And.intro htk (And.intro hG2 hrl))
      clear hk hx htc hc hfr htk hG2 hrl hT hr A6 hl
      go_wp2_with (first
        | (go_at_call 10; refine (c1 _ IA hsz).mono ?_; clear c1; rintro e w4 ⟨v4, rfl, I4, f4⟩)
        | fail)
      have hS : ∀ x ∈ p :: b :: v.ownBlock.toList, w.heap.size ≤ x := by
        intro x hx
        simp only [List.mem_cons] at hx
        rcases hx with rfl | rfl | hx
        · exact HP.out.2.1
        · exact HP.out.2.2
        · exact (own_block hI.row hx).1
      have R4 := RA.fr f4 (Nat.lt_of_lt_of_le zg fA.size) (fun hm => by have := hS g hm; have := HGL.out; omega)
      refine ⟨⟨i + 1, (fun y => if y = tagB r3 then (((rs.take i).length + 1 : Nat) : Int) else F y), v4, by omega, by simp, ?_, ?_, R4, (hF.trans fA).new f4 hS⟩, by simp only [RowKit.intOf]; omega⟩
      · rw [HH.out.1]; exact I4
      · rw [HH.out.1]; exact HH.out.2.1
    · obtain rfl : i = rs.length := by omega
      have l1 : ¬ (rs.length : Int) < rs.length := by omega
      rw [List.take_of_length_le (Nat.le_refl _)] at hI hG
      go_wp2_with fail
      go_ret2
      exact ⟨p, rfl, b, HP.out.1, HP.out.2.1, HP.out.2.2, v, F, hI, hG, fun x hx => (own_block hI.row (by rw [hx]; simp)).1, hF⟩
end Go.Proofs.Ythalpgandfbkdaa
