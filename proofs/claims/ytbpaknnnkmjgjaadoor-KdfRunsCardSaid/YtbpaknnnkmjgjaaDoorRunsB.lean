/- Two running keyed sums beside one another, the program's and the document's: what stands all along. No walk here. -/
import Derived.Test.YtbpaknnnkmjgjaaDoorMacOps
namespace Go.Proofs.YtbpaknnnkmjgjaaDoor
open Go.RowKit Go.Lib Go.Joins Base
set_option linter.unusedVariables false
set_option linter.unusedSimpArgs false

def upd {α : Type} (f : Nat → α) (i : Nat) (x : α) : Nat → α := fun k => if k = i then x else f k
theorem upd_same {α : Type} (f : Nat → α) (i : Nat) (x : α) : upd f i x i = x := by simp [upd]
theorem upd_else {α : Type} (f : Nat → α) (i k : Nat) (x : α) (h : k ≠ i) : upd f i x k = f k := by simp [upd, h]
def ptr (b : Nat) : Value := .pointer (some ⟨b, 0, none⟩)
structure KB (w0 wr : World) (a b : Nat) (M P R : Nat → Nat) (K T : Nat → ByteArray) : Prop where
  fr : Fr [] w0 wr
  la : w0.heap.size ≤ a
  lb : w0.heap.size ≤ b
  ab : a ≠ b
  ca : At wr a 35 [ptr (M 0), ptr (M 1)]
  cb : At wr b 38 [ptr (R 0), ptr (R 1)]
  own : ∀ i, i < 2 → MacAt wr (M i) (P i) (K i).data.toList (T i).data.toList
  ref : ∀ i, i < 2 → RMac wr (R i) (K i) (T i)
  sz : ∀ i, i < 2 → (K i).size ≤ 140737488351232 ∧ (T i).size ≤ 1099511627712
  new : ∀ i, i < 2 → w0.heap.size ≤ M i ∧ w0.heap.size ≤ P i ∧ w0.heap.size ≤ R i
  dis : ∀ i j, i < 2 → j < 2 → P i ≠ M j ∧ P i ≠ R j ∧ R i ≠ M j ∧ (i ≠ j → P i ≠ P j ∧ R i ≠ R j)
  far : ∀ i, i < 2 → P i ≠ a ∧ P i ≠ b ∧ R i ≠ a ∧ R i ≠ b ∧ M i ≠ a ∧ M i ≠ b

theorem KB.keep {w0 wr w' : World} {a b : Nat} {M P R : Nat → Nat} {K T : Nat → ByteArray} (h : KB w0 wr a b M P R K T) (f : Fr [] wr w') : KB w0 w' a b M P R K T :=
  ⟨h.fr.trans f, h.la, h.lb, h.ab, f.keep h.ca (by simp), f.keep h.cb (by simp), fun i hi => (h.own i hi).keep f (by simp) (by simp), fun i hi => f.keep (h.ref i hi) (by simp), h.sz, h.new, h.dis, h.far⟩
theorem KB.write {w0 wr w1 w2 : World} {a b : Nat} {M P R : Nat → Nat} {K T : Nat → ByteArray} (h : KB w0 wr a b M P R K T) (i : Nat) (hi : i < 2) (d : ByteArray)
    (h1 : MacAt w1 (M i) (P i) (K i).data.toList ((T i).data.toList ++ d.data.toList)) (f1 : Fr [P i] wr w1) (h2 : RMac w2 (R i) (K i) (T i ++ d)) (f2 : Fr [R i] w1 w2) (hs : (T i).size + d.size ≤ 1099511627712) :
    KB w0 w2 a b M P R K (upd T i (T i ++ d)) := by
  have hn := h.new i hi
  have hfa := h.far i hi
  have e : (T i ++ d).data.toList = (T i).data.toList ++ d.data.toList := by rw [ByteArray.data_append, Array.toList_append]
  refine ⟨(h.fr.new f1 (by simp; exact hn.2.1)).new f2 (by simp; exact hn.2.2), h.la, h.lb, h.ab, f2.keep (f1.keep h.ca (by simp; exact Ne.symm hfa.1)) (by simp; exact Ne.symm hfa.2.2.1), f2.keep (f1.keep h.cb (by simp; exact Ne.symm hfa.2.1)) (by simp; exact Ne.symm hfa.2.2.2.1), fun j hj => ?_, fun j hj => ?_, fun j hj => ?_, h.new, h.dis, h.far⟩
  · have hd := h.dis i j hi hj
    have hd2 := h.dis j i hj hi
    by_cases he : j = i
    · subst he
      rw [upd_same, e]
      exact h1.keep f2 (by simp; exact Ne.symm hd.2.2.1) (by simp; exact hd.2.1)
    · rw [upd_else _ _ _ _ he]
      exact ((h.own j hj).keep f1 (by simp; exact Ne.symm hd.1) (by simp; exact Ne.symm (hd.2.2.2 (Ne.symm he)).1)).keep f2 (by simp; exact Ne.symm hd.2.2.1) (by simp; exact hd2.2.1)
  · have hd := h.dis i j hi hj
    by_cases he : j = i
    · subst he
      rw [upd_same]; exact h2
    · rw [upd_else _ _ _ _ he]
      exact f2.keep (f1.keep (h.ref j hj) (by simp; exact Ne.symm hd.2.1)) (by simp; exact Ne.symm (hd.2.2.2 (Ne.symm he)).2)
  · have hs2 := h.sz j hj
    by_cases he : j = i
    · subst he
      rw [upd_same, ByteArray.size_append]
      exact ⟨hs2.1, hs⟩
    · rw [upd_else _ _ _ _ he]; exact hs2
theorem set_ptr (M : Nat → Nat) (i m : Nat) (hi : i < 2) : [ptr (M 0), ptr (M 1)].set i (ptr m) = [ptr (upd M i m 0), ptr (upd M i m 1)] := by
  have : i = 0 ∨ i = 1 := by omega
  rcases this with rfl | rfl <;> rfl
theorem KB.renew {w0 wr w1 w3 : World} {a b : Nat} {M P R : Nat → Nat} {K T : Nat → ByteArray} (h : KB w0 wr a b M P R K T) (i : Nat) (hi : i < 2) (s : ByteArray) (m p r : Nat) (hs : s.size ≤ 140737488351232)
    (hm : wr.heap.size ≤ m) (hp : wr.heap.size ≤ p) (h1 : MacAt w1 m p s.data.toList []) (f1 : Fr [] wr w1) (hr : (w1.setCell ⟨a, i, none⟩ (ptr m)).heap.size ≤ r) (h3 : RMac w3 r s ⟨#[]⟩) (f3 : Fr [] (w1.setCell ⟨a, i, none⟩ (ptr m)) w3) :
    KB w0 (w3.setCell ⟨b, i, none⟩ (ptr r)) a b (upd M i m) (upd P i p) (upd R i r) (upd K i s) (upd T i ⟨#[]⟩) := by
  have hsz0 := h.fr.size
  have hsz1 := f1.size
  have hr' : w1.heap.size ≤ r := by simpa [World.setCell] using hr
  have f2 : Fr [a] w1 (w1.setCell ⟨a, i, none⟩ (ptr m)) := Fr.setCell _ _ _ _ (.inl (by simp))
  have f4 : Fr [b] w3 (w3.setCell ⟨b, i, none⟩ (ptr r)) := Fr.setCell _ _ _ _ (.inl (by simp))
  have hla := h.ca.lt
  have hlb := h.cb.lt
  have old : ∀ j, j < 2 → M j < wr.heap.size ∧ P j < wr.heap.size ∧ R j < wr.heap.size := fun j hj => ⟨(h.own j hj).lt.1, (h.own j hj).lt.2, (h.ref j hj).lt⟩
  have nw := h1.lt
  have nm := h1.1
  refine ⟨(((h.fr.trans f1).new f2 (by simp; exact h.la)).trans f3).new f4 (by simp; exact h.lb), h.la, h.lb, h.ab, ?_, ?_, fun j hj => ?_, fun j hj => ?_, fun j hj => ?_, fun j hj => ?_, fun j k hj hk => ?_, fun j hj => ?_⟩
  · rw [← set_ptr _ _ _ hi]
    exact (f3.keep ((f1.keep h.ca (by simp)).setCell i _) (by simp)).setCell_other (by simp; exact h.ab) _
  · rw [← set_ptr _ _ _ hi]
    exact (f3.keep ((f1.keep h.cb (by simp)).setCell_other (by simp; exact Ne.symm h.ab) _) (by simp)).setCell i _
  · by_cases he : j = i
    · subst he
      rw [upd_same, upd_same, upd_same, upd_same]
      exact ((h1.keep f2 (by simp; omega) (by simp; omega)).keep f3 (by simp) (by simp)).keep f4 (by simp; omega) (by simp; omega)
    · rw [upd_else _ _ _ _ he, upd_else _ _ _ _ he, upd_else _ _ _ _ he, upd_else _ _ _ _ he]
      have hf := h.far j hj
      exact ((((h.own j hj).keep f1 (by simp) (by simp)).keep f2 (by simp; exact hf.2.2.2.2.1) (by simp; exact hf.1)).keep f3 (by simp) (by simp)).keep f4 (by simp; exact hf.2.2.2.2.2) (by simp; exact hf.2.1)
  · by_cases he : j = i
    · subst he
      rw [upd_same, upd_same, upd_same]
      exact f4.keep h3 (by simp; omega)
    · rw [upd_else _ _ _ _ he, upd_else _ _ _ _ he, upd_else _ _ _ _ he]
      have hf := h.far j hj
      exact f4.keep (f3.keep (f2.keep (f1.keep (h.ref j hj) (by simp)) (by simp; exact hf.2.2.1)) (by simp)) (by simp; exact hf.2.2.2.1)
  · by_cases he : j = i
    · subst he
      rw [upd_same, upd_same]
      have e0 : (⟨#[]⟩ : ByteArray).size = 0 := rfl
      rw [e0]
      exact ⟨hs, by omega⟩
    · rw [upd_else _ _ _ _ he, upd_else _ _ _ _ he]; exact h.sz j hj
  · by_cases he : j = i
    · subst he
      rw [upd_same, upd_same, upd_same]; omega
    · rw [upd_else _ _ _ _ he, upd_else _ _ _ _ he, upd_else _ _ _ _ he]; exact h.new j hj
  · have oj := old j hj
    have ok := old k hk
    have hd := h.dis j k hj hk
    by_cases he : j = i
    · subst he
      by_cases he2 : k = j
      · subst he2
        simp only [upd_same]
        exact ⟨Ne.symm nm, by omega, by omega, fun h => absurd rfl h⟩
      · simp only [upd_same, upd_else _ _ _ _ he2]
        exact ⟨by omega, by omega, by omega, fun _ => ⟨by omega, by omega⟩⟩
    · by_cases he2 : k = i
      · subst he2
        simp only [upd_same, upd_else _ _ _ _ he]
        exact ⟨by omega, by omega, by omega, fun _ => ⟨by omega, by omega⟩⟩
      · simp only [upd_else _ _ _ _ he, upd_else _ _ _ _ he2]
        exact hd
  · by_cases he : j = i
    · subst he
      simp only [upd_same]; omega
    · simp only [upd_else _ _ _ _ he]; exact h.far j hj
/-- At the start. -/
theorem KB.start {w0 wr : World} {a b : Nat} {m0 p0 r0 m1 p1 r1 : Nat} {k0 k1 : ByteArray} (fr : Fr [] w0 wr) (la : w0.heap.size ≤ a) (lb : w0.heap.size ≤ b) (ab : a ≠ b)
    (ca : At wr a 35 [ptr m0, ptr m1]) (cb : At wr b 38 [ptr r0, ptr r1]) (o0 : MacAt wr m0 p0 k0.data.toList []) (o1 : MacAt wr m1 p1 k1.data.toList []) (q0 : RMac wr r0 k0 ⟨#[]⟩) (q1 : RMac wr r1 k1 ⟨#[]⟩)
    (s0 : k0.size ≤ 140737488351232) (s1 : k1.size ≤ 140737488351232) (n : w0.heap.size ≤ m0 ∧ w0.heap.size ≤ p0 ∧ w0.heap.size ≤ r0 ∧ w0.heap.size ≤ m1 ∧ w0.heap.size ≤ p1 ∧ w0.heap.size ≤ r1)
    (d : [m0, p0, m1, p1, a, r0, r1, b].Nodup) :
    KB w0 wr a b (fun i => if i = 0 then m0 else m1) (fun i => if i = 0 then p0 else p1) (fun i => if i = 0 then r0 else r1) (fun i => if i = 0 then k0 else k1) (fun _ => ⟨#[]⟩) := by
  simp only [List.nodup_cons, List.mem_cons, List.not_mem_nil, or_false, not_or, not_false_eq_true, List.nodup_nil, and_true] at d
  have two : ∀ i, i < 2 → i = 0 ∨ i = 1 := fun i hi => by omega
  obtain ⟨⟨d1, d2, d3, d4, d5, d6, d7⟩, ⟨d8, d9, d10, d11, d12, d13⟩, ⟨d14, d15, d16, d17, d18⟩, ⟨d19, d20, d21, d22⟩, ⟨d23, d24, d25⟩, ⟨d26, d27⟩, d28⟩ := d
  refine ⟨fr, la, lb, ab, ca, cb, fun i hi => ?_, fun i hi => ?_, fun i hi => ?_, fun i hi => ?_, fun i j hi hj => ?_, fun i hi => ?_⟩
  · rcases two i hi with rfl | rfl
    · exact o0
    · exact o1
  · rcases two i hi with rfl | rfl
    · exact q0
    · exact q1
  · have e0 : (⟨#[]⟩ : ByteArray).size = 0 := rfl
    simp only [e0]
    rcases two i hi with rfl | rfl
    · exact ⟨s0, by omega⟩
    · exact ⟨s1, by omega⟩
  · rcases two i hi with rfl | rfl
    · exact ⟨n.1, n.2.1, n.2.2.1⟩
    · exact ⟨n.2.2.2.1, n.2.2.2.2.1, n.2.2.2.2.2⟩
  · rcases two i hi with rfl | rfl <;> rcases two j hj with rfl | rfl <;> simp <;> (repeat' apply And.intro) <;> first | assumption | (exact fun e => absurd e.symm (by assumption))
  · rcases two i hi with rfl | rfl <;> simp <;> (repeat' apply And.intro) <;> first | assumption | (exact fun e => absurd e.symm (by assumption))
end Go.Proofs.YtbpaknnnkmjgjaaDoor
