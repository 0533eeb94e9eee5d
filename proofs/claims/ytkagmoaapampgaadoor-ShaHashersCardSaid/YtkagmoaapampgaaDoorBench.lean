/- Running sums beside one another, the program's and the document's: what stands all along. No walk here. -/
import Derived.Test.YtkagmoaapampgaaDoorShaState
import Derived.Test.YtkagmoaapampgaaDoorShaRest
import Derived.Test.YtkagmoaapampgaaDoorRef2E
namespace Go.Proofs.YtkagmoaapampgaaDoor
open Go.RowKit Go.Lib Go.Joins Base
set_option linter.unusedVariables false
set_option linter.unusedSimpArgs false

/-- The document's running sum: where it began, how much was ahead, the rest. -/
def rcells (F : List UInt32) (A : Nat) (R : ByteArray) : List Value := icells F ++ [.int .i64 (A : Int), .string R]
def RH (w : World) (r : Nat) (F : List UInt32) (A : Nat) (R : ByteArray) : Prop := At w r 82 (rcells F A R)
/-- What lies in a place. -/
structure Pc where
  hb : Nat
  r : Nat
  F : List UInt32
  A : Nat
  R : ByteArray
def ptr (b : Nat) : Value := .pointer (some ⟨b, 0, none⟩)
def own (o : Option Pc) : Value := match o with | none => .pointer none | some c => ptr c.hb
def ref (o : Option Pc) : Value := match o with | none => .pointer none | some c => ptr c.r
def bcells (st : Nat → Option Pc) : List Value := [own (st 0), own (st 1), own (st 2), own (st 3), ref (st 0), ref (st 1), ref (st 2), ref (st 3)]
def upd {α : Type} (f : Nat → α) (i : Nat) (x : α) : Nat → α := fun k => if k = i then x else f k
theorem upd_same {α : Type} (f : Nat → α) (i : Nat) (x : α) : upd f i x i = x := by simp [upd]
theorem upd_else {α : Type} (f : Nat → α) (i k : Nat) (x : α) (h : k ≠ i) : upd f i x k = f k := by simp [upd, h]
theorem bcells_set (st : Nat → Option Pc) (i : Nat) (hi : i < 4) (o : Option Pc) : ((bcells st).set i (own o)).set (4 + i) (ref o) = bcells (upd st i o) := by
  have : i = 0 ∨ i = 1 ∨ i = 2 ∨ i = 3 := by omega
  rcases this with rfl | rfl | rfl | rfl <;> rfl
theorem bcells_own (st : Nat → Option Pc) (i : Nat) (hi : i < 4) : (bcells st)[i]? = some (own (st i)) := by
  have : i = 0 ∨ i = 1 ∨ i = 2 ∨ i = 3 := by omega
  rcases this with rfl | rfl | rfl | rfl <;> rfl
theorem bcells_ref (st : Nat → Option Pc) (i : Nat) (hi : i < 4) : (bcells st)[4 + i]? = some (ref (st i)) := by
  have : i = 0 ∨ i = 1 ∨ i = 2 ∨ i = 3 := by omega
  rcases this with rfl | rfl | rfl | rfl <;> rfl
structure PcOk (w0 w : World) (c : Pc) : Prop where
  hold : Hold w c.hb (wordsOf c.F c.R.data.toList) (restOf c.R.data.toList) (c.A + c.R.size)
  rh : RH w c.r c.F c.A c.R
  f8 : c.F.length = 8
  a64 : c.A % 64 = 0
  sz : c.A + c.R.size ≤ 1099511627776
  nh : w0.heap.size ≤ c.hb
  nr : w0.heap.size ≤ c.r
theorem Hold.at_ {w : World} {b : Nat} {H : List UInt32} {rest : List UInt8} {n : Nat} (h : Hold w b H rest n) : ∃ cs, At w b 75 cs := by
  obtain ⟨_, _, _, _, _, _, hA⟩ := h
  exact ⟨_, hA⟩
theorem at_types {w : World} {g g' : Nat} {T T' : TypeId} {cs cs' : List Value} (h : At w g T cs) (h' : At w g' T' cs') (hT : T ≠ T') : g ≠ g' := by
  rintro rfl
  have := h.out.symm.trans h'.out
  simp at this
  exact hT this.2
structure Bench (w0 w : World) (bb : Nat) (st : Nat → Option Pc) : Prop where
  fr : Fr [] w0 w
  nb : w0.heap.size ≤ bb
  cb : At w bb 43 (bcells st)
  ok : ∀ i, i < 4 → ∀ c, st i = some c → PcOk w0 w c
  dis : ∀ i j, i < 4 → j < 4 → i ≠ j → ∀ c d, st i = some c → st j = some d → c.hb ≠ d.hb ∧ c.r ≠ d.r
theorem PcOk.keep {w0 w w' : World} {c : Pc} (h : PcOk w0 w c) {S : List Nat} (f : Fr S w w') (h1 : c.hb ∉ S) (h2 : c.r ∉ S) : PcOk w0 w' c :=
  ⟨h.hold.keep f h1, f.keep h.rh h2, h.f8, h.a64, h.sz, h.nh, h.nr⟩
theorem Bench.keep {w0 w w' : World} {bb : Nat} {st : Nat → Option Pc} (h : Bench w0 w bb st) (f : Fr [] w w') : Bench w0 w' bb st :=
  ⟨h.fr.trans f, h.nb, f.keep h.cb (by simp), fun i hi c hc => (h.ok i hi c hc).keep f (by simp) (by simp), h.dis⟩
theorem Bench.ne {w0 w : World} {bb : Nat} {st : Nat → Option Pc} (h : Bench w0 w bb st) {i : Nat} (hi : i < 4) {c : Pc} (hc : st i = some c) : c.hb ≠ bb ∧ c.r ≠ bb := by
  have k := h.ok i hi c hc
  obtain ⟨cs, hA⟩ := k.hold.at_
  exact ⟨at_types hA h.cb (by decide), at_types k.rh h.cb (by decide)⟩
/-- A place gets something new. -/
theorem Bench.put {w0 w w' : World} {bb : Nat} {st : Nat → Option Pc} (h : Bench w0 w bb st) (i : Nat) (hi : i < 4) (o : Option Pc) (f : Fr [bb] w w') (hcc : At w' bb 43 (bcells (upd st i o)))
    (ho : ∀ c, o = some c → PcOk w0 w' c ∧ w.heap.size ≤ c.hb ∧ w.heap.size ≤ c.r) : Bench w0 w' bb (upd st i o) := by
  have old : ∀ j, j < 4 → ∀ c, st j = some c → c.hb < w.heap.size ∧ c.r < w.heap.size := fun j hj c hc => by
    have k := h.ok j hj c hc
    obtain ⟨cs, hA⟩ := k.hold.at_
    exact ⟨hA.lt, At.lt k.rh⟩
  refine ⟨h.fr.new f (by simp; exact h.nb), h.nb, hcc, fun j hj c hc => ?_, fun j k hj hk hjk c d hc hd => ?_⟩
  · by_cases he : j = i
    · subst he; rw [upd_same] at hc; exact (ho c hc).1
    · rw [upd_else _ _ _ _ he] at hc
      have hn := h.ne hj hc
      exact (h.ok j hj c hc).keep f (by simpa using hn.1) (by simpa using hn.2)
  · by_cases he : j = i
    · subst he
      rw [upd_same] at hc
      rw [upd_else _ _ _ _ (Ne.symm hjk)] at hd
      have h1 := (ho c hc).2
      have h2 := old k hk d hd
      omega
    · rw [upd_else _ _ _ _ he] at hc
      by_cases he2 : k = i
      · subst he2
        rw [upd_same] at hd
        have h1 := (ho d hd).2
        have h2 := old j hj c hc
        omega
      · rw [upd_else _ _ _ _ he2] at hd
        exact h.dis j k hj hk hjk c d hc hd
/-- What lies in a place goes on. -/
theorem Bench.turn {w0 w w' : World} {bb : Nat} {st : Nat → Option Pc} (h : Bench w0 w bb st) (i : Nat) (hi : i < 4) (c c' : Pc) (hc : st i = some c) (e1 : c'.hb = c.hb) (e2 : c'.r = c.r) (f : Fr [c.hb, c.r] w w') (ho : PcOk w0 w' c') :
    Bench w0 w' bb (upd st i (some c')) := by
  have k := h.ok i hi c hc
  have hne := h.ne hi hc
  obtain ⟨cs, hA⟩ := k.hold.at_
  have hx : own (some c') = own (st i) ∧ ref (some c') = ref (st i) := by rw [hc]; simp [own, ref, e1, e2]
  have hb : bcells (upd st i (some c')) = bcells st := by
    rw [← bcells_set st i hi, hx.1, hx.2]
    apply List.ext_getElem?
    intro n
    rw [List.getElem?_set, List.getElem?_set]
    split
    · rename_i h1; subst h1; rw [bcells_ref st i hi]; simp [bcells]; omega
    · split
      · rename_i h1 h2; subst h2; rw [bcells_own st _ hi]; simp [bcells]; omega
      · rfl
  refine ⟨h.fr.new f (by intro y hy; simp at hy; rcases hy with rfl | rfl; exact k.nh; exact k.nr), h.nb, ?_, fun j hj d hd => ?_, fun j l hj hl hjl d e hd he => ?_⟩
  · rw [hb]; exact f.keep h.cb (by simp; exact ⟨Ne.symm hne.1, Ne.symm hne.2⟩)
  · by_cases he : j = i
    · subst he; rw [upd_same] at hd; cases hd; exact ho
    · rw [upd_else _ _ _ _ he] at hd
      have kd := h.ok j hj d hd
      have hdis := h.dis j i hj hi he d c hd hc
      obtain ⟨cs2, hA2⟩ := kd.hold.at_
      have n1 := at_types hA2 k.rh (by decide)
      have n2 := at_types kd.rh hA (by decide)
      exact kd.keep f (by simp; exact ⟨hdis.1, n1⟩) (by simp; exact ⟨n2, hdis.2⟩)
  · by_cases he1 : j = i
    · subst he1
      rw [upd_same] at hd; cases hd
      rw [upd_else _ _ _ _ (Ne.symm hjl)] at he
      rw [e1, e2]
      exact h.dis j l hj hl hjl c e hc he
    · rw [upd_else _ _ _ _ he1] at hd
      by_cases he2 : l = i
      · subst he2
        rw [upd_same] at he; cases he
        rw [e1, e2]
        exact h.dis j l hj hl hjl d c hd hc
      · rw [upd_else _ _ _ _ he2] at he
        exact h.dis j l hj hl hjl d e hd he
end Go.Proofs.YtkagmoaapampgaaDoor
