/- What is refused; lists of texts compared; a list that is full, grown. -/
import Derived.Test.YtffhfmaphjjffaaDoorSplF
import Derived.Test.YtffhfmaphjjffaaDoorUntil
namespace Go.Proofs.YtffhfmaphjjffaaDoor
open Go.RowKit Go.Lib Go.Joins Base Gf
set_option linter.unusedVariables false
set_option linter.unusedSimpArgs false

/-- What Split refuses, and how. -/
def BadS (ms ids cs : Nat) (n k E : Int) : Prop := (ms ≠ 32 ∧ E = 40) ∨ (ms = 32 ∧ (k < 1 ∨ n < k ∨ 16 < n ∨ ids ≠ 8) ∧ E = 1) ∨ (ms = 32 ∧ 1 ≤ k ∧ k ≤ n ∧ n ≤ 16 ∧ ids = 8 ∧ (cs : Int) ≠ (k - 1) * 32 ∧ E = 77)
theorem splitS_cases (ms ids cs : Nat) (n k : Int) : (∃ E, BadS ms ids cs n k E) ∨ (ms = 32 ∧ ids = 8 ∧ ∃ N K : Nat, n = N ∧ k = K ∧ 1 ≤ K ∧ K ≤ N ∧ N ≤ 16 ∧ cs = 32 * (K - 1)) := by
  by_cases h1 : ms = 32
  · by_cases h2 : k < 1 ∨ n < k ∨ 16 < n ∨ ids ≠ 8
    · exact .inl ⟨1, .inr (.inl ⟨h1, h2, rfl⟩)⟩
    · by_cases h3 : (cs : Int) = (k - 1) * 32
      · exact .inr ⟨h1, by omega, n.toNat, k.toNat, by omega, by omega, by omega, by omega, by omega, by omega⟩
      · exact .inl ⟨77, .inr (.inr ⟨h1, by omega, by omega, by omega, by omega, h3, rfl⟩)⟩
  · exact .inl ⟨40, .inl ⟨h1, rfl⟩⟩

set_option maxRecDepth 100000 in
set_option maxHeartbeats 2000000 in
theorem split_bad (master coins id : ByteArray) (n k E : Int) (h : BadS master.size id.size coins.size n k E) (w : World) :
    Calls Tryd.prog 11 #[.string master, .int .i64 n, .int .i64 k, .string id, .string coins] w fun e w' => e = .returned (.tuple #[.slice none 0 0, .int .i64 E]) ∧ w = w' := by
  rcases h with ⟨h1, rfl⟩ | ⟨h1, h2, rfl⟩ | ⟨h1, h2, h3, h4, h5, h6, rfl⟩
  · have b0 : ((master.size : Int) != 32) = true := by simp; omega
    clear h1
    go_enter Tryd.func11, Tryd.ntmps11
    go_wp2_with fail
    go_ret2
    exact ⟨rfl, rfl⟩
  · have b0 : ((master.size : Int) != 32) = false := by simp; omega
    clear h1
    by_cases c1 : k < 1
    · clear h2
      go_enter Tryd.func11, Tryd.ntmps11
      go_wp2_with fail
      go_ret2
      exact ⟨rfl, rfl⟩
    by_cases c2 : n < k
    · have c1' : ¬ k < 1 := c1
      clear h2
      go_enter Tryd.func11, Tryd.ntmps11
      go_wp2_with fail
      go_ret2
      exact ⟨rfl, rfl⟩
    by_cases c5 : n < 1
    · omega
    by_cases c3 : 16 < n
    · have c1' : ¬ k < 1 := c1
      clear h2
      go_enter Tryd.func11, Tryd.ntmps11
      go_wp2_with fail
      go_ret2
      exact ⟨rfl, rfl⟩
    · have hid : id.size ≠ 8 := by omega
      have b6 : ((id.size : Int) != 8) = true := by simp; omega
      clear h2 hid
      go_enter Tryd.func11, Tryd.ntmps11
      go_wp2_with fail
      go_ret2
      exact ⟨rfl, rfl⟩
  · have b0 : ((master.size : Int) != 32) = false := by simp; omega
    have b6 : ((id.size : Int) != 8) = false := by simp; omega
    have c1 : ¬ k < 1 := by omega
    have c2 : ¬ n < k := by omega
    have c3 : ¬ 16 < n := by omega
    have c5 : ¬ n < 1 := by omega
    have b7 : ((coins.size : Int) != (k - 1) * 32) = true := by simp; omega
    clear h1 h5 h6
    go_enter Tryd.func11, Tryd.ntmps11
    go_wp2_with fail
    go_ret2
    exact ⟨rfl, rfl⟩

set_option maxRecDepth 100000 in
set_option maxHeartbeats 2000000 in
theorem rsplit_bad (master coins id : ByteArray) (n k E : Int) (h : BadS master.size id.size coins.size n k E) (w : World) :
    Calls Tryd.prog 12 #[.string master, .int .i64 n, .int .i64 k, .string id, .string coins] w fun e w' => e = .returned (.tuple #[.slice none 0 0, .int .i64 E]) ∧ w = w' := by
  rcases h with ⟨h1, rfl⟩ | ⟨h1, h2, rfl⟩ | ⟨h1, h2, h3, h4, h5, h6, rfl⟩
  · have b0 : ((master.size : Int) != 32) = true := by simp; omega
    clear h1
    go_enter Tryd.func12, Tryd.ntmps12
    go_wp2_with fail
    go_ret2
    exact ⟨rfl, rfl⟩
  · have b0 : ((master.size : Int) != 32) = false := by simp; omega
    clear h1
    by_cases c1 : k < 1
    · clear h2
      go_enter Tryd.func12, Tryd.ntmps12
      go_wp2_with fail
      go_ret2
      exact ⟨rfl, rfl⟩
    by_cases c2 : n < k
    · have c1' : ¬ k < 1 := c1
      clear h2
      go_enter Tryd.func12, Tryd.ntmps12
      go_wp2_with fail
      go_ret2
      exact ⟨rfl, rfl⟩
    by_cases c5 : n < 1
    · omega
    by_cases c3 : 16 < n
    · have c1' : ¬ k < 1 := c1
      clear h2
      go_enter Tryd.func12, Tryd.ntmps12
      go_wp2_with fail
      go_ret2
      exact ⟨rfl, rfl⟩
    · have hid : id.size ≠ 8 := by omega
      have b6 : ((id.size : Int) != 8) = true := by simp; omega
      clear h2 hid
      go_enter Tryd.func12, Tryd.ntmps12
      go_wp2_with fail
      go_ret2
      exact ⟨rfl, rfl⟩
  · have b0 : ((master.size : Int) != 32) = false := by simp; omega
    have b6 : ((id.size : Int) != 8) = false := by simp; omega
    have c1 : ¬ k < 1 := by omega
    have c2 : ¬ n < k := by omega
    have c3 : ¬ 16 < n := by omega
    have c5 : ¬ n < 1 := by omega
    have b7 : ((coins.size : Int) != (k - 1) * 32) = true := by simp; omega
    clear h1 h5 h6
    go_enter Tryd.func12, Tryd.ntmps12
    go_wp2_with fail
    go_ret2
    exact ⟨rfl, rfl⟩

set_option maxRecDepth 100000 in
set_option maxHeartbeats 1000000 in
theorem sameTexts26_any (ps : List ByteArray) (ad1 ad2 : Option Addr) (c1 c2 : Nat) (hn : ps.length < 4611686018427387904) (w : World) (h1 : Texts w ad1 ps) (h2 : Texts w ad2 ps) :
    Calls Tryd.prog 14 #[.slice ad1 ps.length c1, .slice ad2 ps.length c2] w fun e w' => e = .returned (.bool true) ∧ Fr [] w w' := by
  go_enter Tryd.func14, Tryd.ntmps14
  go_wp2_with fail
  go_loopw [5] (fun v wr => ∃ i : Nat, i ≤ ps.length ∧ v = .int .i64 i ∧ Texts wr ad1 ps ∧ Texts wr ad2 ps ∧ Fr [] w wr) (fun v _ => ps.length - (intOf v).toNat)
  case atStart => exact ⟨0, by omega, rfl, h1, h2, Fr.refl _ _⟩
  case round =>
    clear h1 h2
    obtain ⟨i, hi, rfl, h1, h2, hF⟩ := hrel
    by_cases hl : i < ps.length
    · have l1 : (i : Int) < ps.length := by omega
      obtain ⟨g, o, rfl, hc⟩ := h1 i ps[i] (by simp [hl])
      obtain ⟨g', o', rfl, hd⟩ := h2 i ps[i] (by simp [hl])
      generalize ps[i] = d at hc hd
      go_wp2_with fail
      go_region
      go_wp2_with fail
      refine ⟨⟨i + 1, by omega, by simp, h1.keep (Fr.drew _ _), h2.keep (Fr.drew _ _), hF.trans (Fr.drew _ _)⟩, by simp only [intOf]; omega⟩
    · obtain rfl : i = ps.length := by omega
      go_wp2_with fail
      go_ret
      exact ⟨rfl, hF⟩


/-- append, by a run that is known. -/
theorem wp_append_run {P : Program} {op : Oper} {a : Act} {w : World} {K : Act → World → Prop} {Q : Exit → Act → World → Prop} (s x : Operand) (t : TypeId) (hop : op.op = Op.call { callee := Callee.builtin Builtin.append, args := #[s, x], argTypes := #[t, t] })
    (vs vx v : Value) (w' : World) (hs : a.eval s = vs) (hx : a.eval x = vx) (hrun : (Builtin.append_ #[t, t] op.type #[vs, vx]).run P w = .ok v w') (h : K (a.put op.dst v) w') : op.wp P a w K Q := by
  unfold Oper.wp
  simp [execOp, hop, resolve, invoke, builtin, hs, hx, hrun, Result.andThen]
  exact h
/-- A list that is full. -/
def FullT (w : World) (v : Value) (ps : List ByteArray) : Prop := (v = .slice none 0 0 ∧ ps = []) ∨ ∃ g, v = .slice (some ⟨g, 0, none⟩) ps.length ps.length ∧ At w g 9 (tcells ps)
/-- append of as many texts as one likes to such a list. -/
theorem run_growT (ty : TypeId) {w : World} {v : Value} {ps qs : List ByteArray} {h' : Nat} {T : TypeId} (h : FullT w v ps) (hh : At w h' T (tcells qs)) (hq : 0 < qs.length) (hl : ps.length + qs.length ≤ 1048576) :
    ∃ v' w', (Builtin.append_ #[22, 22] ty #[v, .slice (some ⟨h', 0, none⟩) qs.length qs.length]).run Tryd.prog w = .ok v' w' ∧ w'.ownsRow w.heap.size 9 1 v' (ps.length + qs.length) (tcells (ps ++ qs)) ∧ w.grownBy w' none := by
  have hi5 : (Tryd.prog.info? 9).map (fun i => (i.zero, i.size, i.bytes)) = some (some (.string ⟨#[]⟩), 1, 16) := by kernel_rfl
  obtain ⟨iT, hiT, zT0, zT1, zT2⟩ := info_parts hi5
  have hn : ∀ j u, (tcells qs)[j]? = some u → w.cell? ((⟨h', 0, none⟩ : Addr).add j) = some u := fun j u hj => by rw [addr_add', Nat.zero_add, hh.cell]; exact hj
  rw [tcells_app]
  rcases h with ⟨rfl, rfl⟩ | ⟨g, rfl, hA⟩
  · obtain ⟨v', w', hrun, r1, r2, _⟩ := run_append_own (P := Tryd.prog) w w.heap.size 22 ty 9 iT (.string ⟨#[]⟩) 1 16 Tryd.underlying22 hiT zT0 zT1 zT2 rfl (by decide) (.slice none 0 0) 0 [] (World.ownsRow_nil w _ _ 1) ⟨h', 0, none⟩ qs.length qs.length (tcells qs) (by rw [tcells_len, Nat.mul_one]) hn (tcells_one _) (by simp [maxLen]; simp at hl; omega) (by simp at hl; omega) (Nat.le_refl _)
    exact ⟨v', w', hrun, by simpa [tcells] using r1, r2⟩
  · obtain ⟨v', w', hrun, r1, r2⟩ := run_append_arg_grows (P := Tryd.prog) w 22 ty 9 iT (.string ⟨#[]⟩) 1 16 Tryd.underlying22 hiT zT0 zT1 zT2 rfl (by decide) ⟨g, 0, none⟩ ps.length ps.length (tcells ps) (by rw [tcells_len, Nat.mul_one]) (fun j u hj => by rw [addr_add', Nat.zero_add, hA.cell]; exact hj) ⟨h', 0, none⟩ qs.length qs.length (tcells qs) (by rw [tcells_len, Nat.mul_one]) hn (by omega) (by simp [maxLen]; omega) (by omega)
    exact ⟨v', w', hrun, r1, r2⟩
end Go.Proofs.YtffhfmaphjjffaaDoor
