/- casket/casketlaw8.Forge: a slice of structs that came in as an argument. (mkslice.py wrote it.) -/
import Derived.Test.YthalpgandfbkdaaIdlJ
import Derived.Test.YthalpgandfbkdaaRows
import Derived.Deep.Slices
import Derived.Deep.Fields
import Derived.ChangeSame
import Derived.SizedLaws
import Derived.ProofKit
import Derived.OpenShut
namespace Go.Proofs.Ythalpgandfbkdaa
open Go.RowKit Go.Lib Go.Joins Base Go.ChangeShapes Go.WideShapes Go.Deep
set_option linter.unusedVariables false
set_option linter.unusedSimpArgs false

structure Fg where
  which : Int
  kind : Int
  at_ : Int
  by_ : Int
  name : ByteArray
  more : ByteArray
  cut : Bool
def fgC (x : Fg) : List Value := [.int .i64 x.which, .int .i64 x.kind, .int .i64 x.at_, .int .i64 x.by_, .string x.name, .string x.more, .bool x.cut]
theorem fgC_len (x : Fg) : (fgC x).length = 7 := rfl
def IsTries (w : World) (v : Value) (l : List Fg) : Prop := ((v = .slice none 0 0 ∧ l = []) ∨ ∃ ad cap, v = .slice (some ad) l.length cap ∧ (∀ j u, (l.flatMap fgC)[j]? = some u → w.cell? (ad.add j) = some u) ∧ (l ≠ [] → ∃ g off, ad = ⟨g, off, none⟩)) ∧ l.length * 72 ≤ 140737488351232 ∧ ∀ x ∈ l, x.name.size ≤ 140737488351232 ∧ x.more.size ≤ 140737488351232
theorem IsTries.keep {w w' : World} {v : Value} {l : List Fg} (h : IsTries w v l) (f : Fr [] w w') : IsTries w' v l := by
  obtain ⟨h0 | ⟨ad, cap, h1, h2, h3⟩, h4, h5⟩ := h
  · exact ⟨.inl h0, h4, h5⟩
  · refine ⟨.inr ⟨ad, cap, h1, fun j u hj => ?_, h3⟩, h4, h5⟩
    have hc := h2 j u hj
    have hlt : ad.block < w.heap.size := by
      rcases Nat.lt_or_ge ad.block w.heap.size with h' | h'
      · exact h'
      · simp [World.cell?, add_block, Array.getElem?_eq_none h'] at hc
    rw [← hc]
    exact World.cell?_of_block (w := w) (by rw [add_block]; exact f.block ad.block hlt (by simp))
/-- One struct of it. -/
theorem IsTries.at {w : World} {v : Value} {l : List Fg} (h : IsTries w v l) (j : Nat) (x : Fg) (hj : l[j]? = some x) :
    ∃ g off cap, v = .slice (some ⟨g, off, none⟩) l.length cap ∧ w.cell? ⟨g, off + (j * 7 + 0), none⟩ = some (.int .i64 x.which) ∧ w.cell? ⟨g, off + (j * 7 + 1), none⟩ = some (.int .i64 x.kind) ∧ w.cell? ⟨g, off + (j * 7 + 2), none⟩ = some (.int .i64 x.at_) ∧ w.cell? ⟨g, off + (j * 7 + 3), none⟩ = some (.int .i64 x.by_) ∧ w.cell? ⟨g, off + (j * 7 + 4), none⟩ = some (.string x.name) ∧ w.cell? ⟨g, off + (j * 7 + 5), none⟩ = some (.string x.more) ∧ w.cell? ⟨g, off + (j * 7 + 6), none⟩ = some (.bool x.cut) := by
  have hne : l ≠ [] := by rintro rfl; simp at hj
  obtain ⟨h0 | ⟨ad, cap, h1, h2, h3⟩, _⟩ := h
  · exact absurd h0.2 hne
  · obtain ⟨g, off, rfl⟩ := h3 hne
    have hc : ∀ i, i < 7 → w.cell? ⟨g, off + (j * 7 + i), none⟩ = (fgC x)[i]? := fun i hi => by
      have e := flat_at fgC 7 fgC_len l j x hj i hi
      have hs : (fgC x)[i]? = some ((fgC x)[i]'(by rw [fgC_len]; exact hi)) := List.getElem?_eq_getElem _
      have := h2 _ _ (e.trans hs)
      rw [hs, ← this, addr_add']
    exact ⟨g, off, cap, h1, hc 0 (by omega), hc 1 (by omega), hc 2 (by omega), hc 3 (by omega), hc 4 (by omega), hc 5 (by omega), hc 6 (by omega)⟩
set_option maxRecDepth 100000 in
set_option maxHeartbeats 1000000 in
theorem istries_open {H : Type} {enc : TypeId × Value → H} {W : World} {base : Nat} {v : Value} {d : DataW H} {p : List MemPlace} {ts : List TypeId} {ds : List (DataW H)} {j : Nat}
    (hv : Value.okWide Try.prog W .any base 38 v) (h : DataW.Trod enc Try.prog W 0 (fun _ => true) true 38 v d p) (hsz : (DataW.weightsEach Try.prog ts ds).all (· ≤ reachBytes) = true) (hts : ts[j]? = some 38) (hds : ds[j]? = some d) :
    ∃ l, IsTries W v l := by
  have h1 : reachBytes = 140737488351232 := by decide
  obtain ⟨a0, len0, cap0, rfl⟩ := okWide_slice Try.underlying38 hv
  obtain ⟨fuel, hf⟩ := h
  rcases open_slice_fields Try.underlying38 Try.underlying48 (by kernel_rfl) (by kernel_rfl) hf with ⟨hcs, hx⟩ | ⟨a, len, cap, m, D, Pl, hcs, hb, hl, hm, hmm, hx, hel⟩
  · simp [Value.cells] at hcs
    obtain ⟨rfl, rfl, rfl⟩ := hcs
    exact ⟨[], .inl ⟨rfl, rfl⟩, by simp, by simp⟩
  · simp [Value.cells] at hcs
    obtain ⟨rfl, rfl, rfl⟩ := hcs
    simp only [Prod.mk.injEq] at hx
    have hcap := sized_slice hsz hts (by rw [hds, hx.1]) Try.underlying38
    simp only [List.length_map, List.length_range] at hcap
    have hmc : m = cap0 := by simpa using hmm
    subst hmc
    have h2 : Try.prog.bytesOf 48 = 72 := by kernel_rfl
    rw [h1, h2] at hcap
    have key : ∀ i, i < len0 → ∃ o : Fg, W.cell? (a.add (i * 7 + 0)) = some (.int .i64 o.which) ∧ W.cell? (a.add (i * 7 + 1)) = some (.int .i64 o.kind) ∧ W.cell? (a.add (i * 7 + 2)) = some (.int .i64 o.at_) ∧ W.cell? (a.add (i * 7 + 3)) = some (.int .i64 o.by_) ∧ W.cell? (a.add (i * 7 + 4)) = some (.string o.name) ∧ W.cell? (a.add (i * 7 + 5)) = some (.string o.more) ∧ W.cell? (a.add (i * 7 + 6)) = some (.bool o.cut) ∧ o.name.data.toList.length ∈ (D i).weights Try.prog 48 ∧ o.more.data.toList.length ∈ (D i).weights Try.prog 48 := fun i hi => by
      obtain ⟨ys, n, hD, _, hyl, hfl⟩ := hel i (by omega)
      obtain ⟨v0, y0, c0, e0, t0⟩ := hfl 0 _ rfl
      obtain ⟨v1, y1, c1, e1, t1⟩ := hfl 1 _ rfl
      obtain ⟨v2, y2, c2, e2, t2⟩ := hfl 2 _ rfl
      obtain ⟨v3, y3, c3, e3, t3⟩ := hfl 3 _ rfl
      obtain ⟨v4, y4, c4, e4, t4⟩ := hfl 4 _ rfl
      obtain ⟨v5, y5, c5, e5, t5⟩ := hfl 5 _ rfl
      obtain ⟨v6, y6, c6, e6, t6⟩ := hfl 6 _ rfl
      obtain ⟨n0, g0, rfl, w0⟩ := DataW.trod_int Try.underlying3 t0
      obtain ⟨n1, g1, rfl, w1⟩ := DataW.trod_int Try.underlying3 t1
      obtain ⟨n2, g2, rfl, w2⟩ := DataW.trod_int Try.underlying3 t2
      obtain ⟨n3, g3, rfl, w3⟩ := DataW.trod_int Try.underlying3 t3
      obtain ⟨n4, g4, rfl, _⟩ := DataW.trod_string Try.underlying9 t4
      obtain ⟨n5, g5, rfl, _⟩ := DataW.trod_string Try.underlying9 t5
      obtain ⟨n6, g6, rfl⟩ := DataW.trod_bool Try.underlying4 t6
      simp only [List.cons.injEq, and_true] at g0 g1 g2 g3 g4 g5 g6
      subst g0 g1 g2 g3 g4 g5 g6
      have hys : ys = [(.lit (.int .i64 n0), []), (.lit (.int .i64 n1), []), (.lit (.int .i64 n2), []), (.lit (.int .i64 n3), []), (.lit (.string n4.data.toList), []), (.lit (.string n5.data.toList), []), (.lit (.bool n6), [])] := by
        match ys, hyl, e0, e1, e2, e3, e4, e5, e6 with
        | [_, _, _, _, _, _, _], _, e0, e1, e2, e3, e4, e5, e6 =>
          simp at e0 e1 e2 e3 e4 e5 e6
          rw [e0, e1, e2, e3, e4, e5, e6]
      have hW : (D i).weights Try.prog 48 = [n4.data.toList.length, n5.data.toList.length] := by
        rw [hD, hys]
        simp only [List.map_cons, List.map_nil, DataW.weights, Try.underlying48]
        rfl
      refine ⟨⟨n0, n1, n2, n3, n4, n5, n6⟩, c0, c1, c2, c3, c4, c5, c6, ?_, ?_⟩
      · rw [hW]; simp
      · rw [hW]; simp
    have hsp : 0 < len0 → a.spot = none := fun h0 => by
      obtain ⟨o, c0, _⟩ := key 0 h0
      cases a with
      | mk b o sp =>
        cases sp with
        | none => rfl
        | some x =>
          simp [Addr.add, World.cell?] at c0
          split at c0 <;> simp at c0
    obtain ⟨f, hfk⟩ : ∃ f : Nat → Fg, ∀ i, i < len0 → W.cell? (a.add (i * 7 + 0)) = some (.int .i64 (f i).which) ∧ W.cell? (a.add (i * 7 + 1)) = some (.int .i64 (f i).kind) ∧ W.cell? (a.add (i * 7 + 2)) = some (.int .i64 (f i).at_) ∧ W.cell? (a.add (i * 7 + 3)) = some (.int .i64 (f i).by_) ∧ W.cell? (a.add (i * 7 + 4)) = some (.string (f i).name) ∧ W.cell? (a.add (i * 7 + 5)) = some (.string (f i).more) ∧ W.cell? (a.add (i * 7 + 6)) = some (.bool (f i).cut) ∧ (f i).name.data.toList.length ∈ (D i).weights Try.prog 48 ∧ (f i).more.data.toList.length ∈ (D i).weights Try.prog 48 := by
      refine ⟨fun i => if hi : i < len0 then Classical.choose (key i hi) else ⟨0, 0, 0, 0, ⟨#[]⟩, ⟨#[]⟩, false⟩, fun i hi => ?_⟩
      simp only [dif_pos hi]
      exact Classical.choose_spec (key i hi)
    refine ⟨(List.range len0).map f, .inr ⟨a, m, by simp, ?_, ?_⟩, by simp; omega, ?_⟩
    · intro q u hq
      have hlen := flat_len fgC 7 fgC_len ((List.range len0).map f)
      rw [List.length_map, List.length_range] at hlen
      have hql := (List.getElem?_eq_some_iff.1 hq).1
      have hqk : q / 7 < len0 := by omega
      have e := flat_at fgC 7 fgC_len ((List.range len0).map f) (q / 7) (f (q / 7)) (by rw [List.getElem?_map, List.getElem?_range hqk]; rfl) (q % 7) (Nat.mod_lt _ (by omega))
      rw [show q / 7 * 7 + q % 7 = q by omega, hq] at e
      obtain ⟨c0, c1, c2, c3, c4, c5, c6, _⟩ := hfk (q / 7) hqk
      have hm : q % 7 = 0 ∨ q % 7 = 1 ∨ q % 7 = 2 ∨ q % 7 = 3 ∨ q % 7 = 4 ∨ q % 7 = 5 ∨ q % 7 = 6 := by omega
      rcases hm with hm | hm | hm | hm | hm | hm | hm
      · rw [hm] at e
        rw [show q = q / 7 * 7 + 0 by omega, c0]
        exact e.symm
      · rw [hm] at e
        rw [show q = q / 7 * 7 + 1 by omega, c1]
        exact e.symm
      · rw [hm] at e
        rw [show q = q / 7 * 7 + 2 by omega, c2]
        exact e.symm
      · rw [hm] at e
        rw [show q = q / 7 * 7 + 3 by omega, c3]
        exact e.symm
      · rw [hm] at e
        rw [show q = q / 7 * 7 + 4 by omega, c4]
        exact e.symm
      · rw [hm] at e
        rw [show q = q / 7 * 7 + 5 by omega, c5]
        exact e.symm
      · rw [hm] at e
        rw [show q = q / 7 * 7 + 6 by omega, c6]
        exact e.symm
    · intro hne
      have h0 : 0 < len0 := by
        rcases Nat.eq_zero_or_pos len0 with h | h
        · subst h; exact absurd rfl hne
        · exact h
      have hs := hsp h0
      cases a with
      | mk b off sp =>
        simp only at hs
        subst hs
        exact ⟨b, off, rfl⟩
    · intro o ho
      obtain ⟨i, hi, rfl⟩ := List.mem_map.1 ho
      have hi' : i < len0 := List.mem_range.1 hi
      obtain ⟨_, _, _, _, _, _, _, hw0, hw1⟩ := hfk i hi'
      have hw : ∀ s : ByteArray, s.data.toList.length ∈ (D i).weights Try.prog 48 → s.size ≤ 140737488351232 := fun s hs => by
        have hw2 : s.data.toList.length ∈ d.weights Try.prog 38 := by
          rw [hx.1]
          simp only [DataW.weights, Try.underlying38, List.mem_cons, List.mem_append]
          exact .inr (.inl (weightsAll_mem _ _ (D i) _ hs _ (List.mem_map.2 ⟨i, hi, rfl⟩)))
        have := List.all_eq_true.1 hsz _ (DataW.weights_mem_each hts hds _ hw2)
        rw [h1] at this
        simpa using this
      exact ⟨hw _ hw0, hw _ hw1⟩
end Go.Proofs.Ythalpgandfbkdaa
